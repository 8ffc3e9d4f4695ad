/- The contract of lossless.read. The contracts of lossless.Read, Samples. The values of the chapter's examples. The contract of the law's awake. -/
import Derived.Test.YtjcijaojcgampaaGreatDoorZPl27
import Derived.Test.YtjcijaojcgampaaGreatDoorZPl5
set_option linter.unusedVariables false
set_option linter.unusedSimpArgs false
set_option maxHeartbeats 16000000
set_option maxRecDepth 100000
section
namespace Go.Proofs.YtjcijaojcgampaaGreatDoor.P
open Go.RowKit Go.Shelf Go.Proofs.YtjcijaojcgampaaGreatDoor.Bits Go.Proofs.YtjcijaojcgampaaGreatDoorW.PrintWords Go.Proofs.YtjcijaojcgampaaGreatDoorW.PrintLast Go.Proofs.YtjcijaojcgampaaGreatDoorW.PrintMore
attribute [local go_sem ↓] Go.wp_at_zero Go.wp_at_succ
def sigsR (L : List Int) (n : Nat) : Nat → Nat → List (List Int) → List (List Int) × Int × Nat
  | 0, a, acc => (acc, 0, a)
  | m + 1, a, acc => if (sigR L a n).2.1 ≠ 0 then ([], (sigR L a n).2.1, (sigR L a n).2.2) else sigsR L n m (sigR L a n).2.2 (acc ++ [(sigR L a n).1])
def midR (L : List Int) (a ch : Nat) : Int × Int × Nat := if ch = 2 then rGet L a 1 else (0, 0, a)
def outR (m : Int) (s : List (List Int)) : List (List Int) := if m = 1 then [lefL (s.getD 0 []) (s.getD 1 []), rigL (s.getD 0 []) (s.getD 1 [])] else s
def readR (L : List Int) (a ch n : Nat) : List (List Int) × Int × Nat :=
  if (midR L a ch).2.1 ≠ 0 then ([], (midR L a ch).2.1, (midR L a ch).2.2)
  else if (sigsR L n ch (midR L a ch).2.2 []).2.1 ≠ 0 then ([], (sigsR L n ch (midR L a ch).2.2 []).2.1, (sigsR L n ch (midR L a ch).2.2 []).2.2)
  else if okF (outR (midR L a ch).1 (sigsR L n ch (midR L a ch).2.2 []).1) then (outR (midR L a ch).1 (sigsR L n ch (midR L a ch).2.2 []).1, 0, (sigsR L n ch (midR L a ch).2.2 []).2.2)
  else ([], 6, (sigsR L n ch (midR L a ch).2.2 []).2.2)
def FReadPost (w : World) (S : Nat → Prop) (p : Nat) (L : List Int) (r : List (List Int) × Int × Nat) (e : Ending) (w' : World) : Prop :=
  ∃ A c, e = .returned (.tuple #[.slice A r.1.length c, .int .i64 r.2.1]) ∧ r.1.length ≤ c ∧ Kd.F KdL w' (fun k => w.heap.size ≤ k) A r.1.length r.1 ∧ Rd w' S p L r.2.2 ∧ Fr (fun k => k = p) w w'
theorem nilF (w : World) (ok : Nat → Prop) : Kd.F KdL w ok none 0 [] := Kd.N_F (Kd.N_nil KdL 22 w 0 ok)
theorem readF_any (S : Nat → Prop) (p a ch n : Nat) (L : List Int) (w : World) (hR : Rd w S p L a) (hch : ch = 1 ∨ ch = 2) (hn : 1 ≤ n ∧ n ≤ 128) :
    Calls Tryz.prog 47 #[.pointer (some ⟨p, 0, none⟩), .int .i64 (ch : Int), .int .i64 (n : Int)] w (FReadPost w S p L (readR L a ch n)) := by
  have HPL := Aside0.mk hR.p_lt
  have HA : Aside0 (readR L a ch n = _) := ⟨readR.eq_1 L a ch n⟩
  generalize readR L a ch n = R at *
  have HSG := Aside0.mk (fun b W (h : Rd W S p L b) => signal_any S p b n L W h (by omega))
  have HSO := Aside0.mk (fun b => @sigR_ok L b n (by omega))
  have HRW := Aside0.mk hR
  have HNN := Aside0.mk hn
  obtain ⟨nI, hnI⟩ : ∃ nI : Int, (n : Int) = nI := ⟨_, rfl⟩
  rw [hnI] at HSG ⊢
  clear hnI
  obtain ⟨cI, hcI⟩ : ∃ cI : Int, (ch : Int) = cI := ⟨_, rfl⟩
  rw [hcI]
  rcases hch with rfl | rfl
  · have hmr : midR L a 1 = (0, 0, a) := rfl
    rw [hmr] at HA
    dsimp only at HA
    rw [if_neg (by simp)] at HA
    have HCI := Aside0.mk (show cI = 1 by omega)
    have d2 : (cI == 2) = false := by have := HCI.out; simp; omega
    clear hR hn hmr hcI
    generalize hRs : sigsR L n 1 a [] = Rs at *
    have HR0 := Aside0.mk hRs
    clear hRs
    go_enter Tryz.func47, Tryz.ntmps47
    go_wp2_with fail
    go_loopw [10, 24] (fun v u wr => ∃ (i b : Nat) (acc : List (List Int)) (A1 : Option Addr) (c1 : Nat), v = .slice A1 acc.length c1 ∧ u = .int .i64 (i : Int) ∧ i ≤ 1 ∧ Aside0 (sigsR L n (1 - i) b acc = Rs) ∧ Aside0 (acc.length = i ∧ ∀ l ∈ acc, l.length = n ∧ chkS l = 0) ∧ Aside0 (Kd.R KdL 22 wr w.heap.size (fun k => w.heap.size ≤ k) v acc) ∧ Aside0 (Rd wr S p L b) ∧ Aside0 (Fr (fun k => k = p) w wr)) (fun _ u _ => 1 - (intOf u).toNat)
    case atStart => exact ⟨0, a, [], none, 0, rfl, rfl, by omega, HR0, ⟨rfl, fun l hl => by cases hl⟩, ⟨Kd.R_nil _ _ _ _ _⟩, HRW, ⟨Fr.refl _ _⟩⟩
    case round =>
      obtain ⟨i, b, acc, A1, c1, rfl, rfl, hi, HPJ, HAJ, HRJ, HBJ, HFJ⟩ := hrel
      by_cases hlt : i < 1
      · have d1 : decide ((i : Int) < cI) = true := by have := HCI.out; simp; omega
        have hgs := HSG.out b wr HBJ.out
        have hso := HSO.out b
        have hpj := HPJ.out
        rw [show 1 - i = (1 - (i + 1)) + 1 by omega, sigsR] at hpj
        unfold LReadPost at hgs
        generalize sigR L b n = gg at *
        obtain ⟨x, e2, b2⟩ := gg
        dsimp only at hgs hpj hso
        have HGG := Aside0.mk hgs
        clear hgs
        by_cases he2 : e2 = 0
        case neg =>
          rw [if_pos he2] at hpj
          have q1 : (e2 != 0) = true := by simpa using he2
          have HPJ2 := Aside0.mk hpj
          have HE2 := Aside0.mk he2
          clear he2 hpj hso
          go_wp2_with fail
          refine HGG.out.mono ?_
          rintro e w4 ⟨v4, rfl, hv, hr, hf⟩
          obtain ⟨A4, c4, rfl⟩ := hv.slice
          have HR4 := Aside0.mk hr
          have HF4 := Aside0.mk (HFJ.out.trans hf)
          clear hv hr hf
          go_wp2_with fail
          go_ret2
          rw [← HPJ2.out] at HA
          rw [if_pos HE2.out] at HA
          unfold FReadPost
          rw [HA.out]
          exact ⟨none, 0, rfl, Nat.le_refl _, nilF _ _, HR4.out, HF4.out⟩
        subst he2
        rw [if_neg (by simp)] at hpj
        obtain ⟨hxl, hxk⟩ := hso rfl
        have HPJ2 := Aside0.mk hpj
        have HXL := Aside0.mk (show x.length = n ∧ chkS x = 0 from ⟨hxl, hxk⟩)
        clear hpj hxl hxk hso
        go_wp2_with fail
        refine HGG.out.mono ?_
        rintro e w4 ⟨v4, rfl, hv, hr, hf⟩
        obtain ⟨A4, c4, rfl⟩ := hv.slice
        have ho4 := R_fr HRJ.out hf (fun k hk _ e => by have h1 : w.heap.size ≤ k := hk; have := HPL.out; omega)
        have hsz := HFJ.out.size
        have hsz2 := hf.size
        have hm4 : KdL.M w4 w.heap.size (fun k => wr.heap.size ≤ k) x [.slice A4 x.length c4] := ⟨_, rfl, Kd.R_of_own (hv.mono hsz) (fun k hk => (hv.block k hk).2)⟩
        have hlt4 : ∀ k, (Value.slice A1 acc.length c1).ownBlock = some k → k < wr.heap.size := fun k hk => Kd.R_lt HRJ.out k hk
        have HO4 := Aside0.mk ho4
        have HM4 := Aside0.mk hm4
        have HLT4 := Aside0.mk hlt4
        have HR4 := Aside0.mk hr
        have HF4 := Aside0.mk (HFJ.out.trans hf)
        have HSZ := Aside0.mk (show w.heap.size ≤ wr.heap.size ∧ wr.heap.size ≤ w4.heap.size ∧ acc.length ≤ 2 from ⟨hsz, hsz2, by have := HAJ.out.1; omega⟩)
        clear hv hr hf ho4 hm4 hlt4 hsz hsz2
        go_wp2_with (at_builtin; refine Kd.R_append KdL (w0 := w4) w.heap.size rfl (.tmp 35) (.tmp 37) 27 22 (.slice none 0 0) 24 rfl Tryz.underlying27 info22 rfl (by decide) (by decide) (.slice A1 acc.length c1) acc x [.slice A4 x.length c4] (fun k => w.heap.size ≤ k) (fun k => wr.heap.size ≤ k) rfl rfl HM4.out (fun k hk => ⟨Nat.le_trans HSZ.out.1 hk, fun e => by have := HLT4.out k e.symm; have h1 : wr.heap.size ≤ k := hk; omega⟩) (fun k hk => Nat.le_trans (Nat.le_trans HSZ.out.1 HSZ.out.2.1) hk) HO4.out (Below.refl _ _) (Nat.le_trans HSZ.out.1 HSZ.out.2.1) (by have := HSZ.out.2.2; omega) ?_; intro v5 w5 ho hb hg hat; have HO5 := Aside0.mk ho; have HB5 := Aside0.mk hb; have HG5 := Aside0.mk hg; clear ho hb hg hat)
        obtain ⟨A5, c5, e5⟩ := Kd.R_slice HO5.out
        subst e5
        have hgf : Fr (fun k => k < wr.heap.size ∧ w.heap.size ≤ k ∧ ∃ cs, w4.heap[k]? = some (.cells cs 22 (0, 0))) w4 w5 := ((Fr.refl _ _)).grown HG5.out (fun k hk e => ⟨HLT4.out k e, Kd.R_base HRJ.out k e, Kd.R_typed HO4.out k e⟩)
        have HR5 := Aside0.mk (HR4.out.fr hgf (fun e => by have := HPL.out; omega) (fun k hk e => by
          obtain ⟨_, _, cs, hcs⟩ := e
          obtain ⟨cs', hcs'⟩ := HR4.out.typed k hk
          rw [hcs] at hcs'
          cases hcs'))
        have HF5 := Aside0.mk (HF4.out.next hgf (fun i hi h => by have := h.2.1; omega))
        clear hgf
        have hl5 : (acc ++ [x]).length = acc.length + 1 := by simp
        go_roundw
        case rel => exact ⟨i + 1, b2, acc ++ [x], A5, c5, rfl, by go_num, by omega, HPJ2, ⟨by rw [hl5, HAJ.out.1], fun l hl => by
          rcases List.mem_append.1 hl with h | h
          · exact HAJ.out.2 l h
          · rw [List.mem_singleton.1 h]; exact HXL.out⟩, HO5, HR5, HF5⟩
        case measure => simp [intOf]; omega
      · have d1 : decide ((i : Int) < cI) = false := by have := HCI.out; simp; omega
        have hpj := HPJ.out
        rw [show 1 - i = 0 by omega, sigsR] at hpj
        have HIE := Aside0.mk (show i = 1 by omega)
        clear hlt hi
        rw [← hpj] at HA
        rw [if_neg (by simp)] at HA
        dsimp only at HA
        obtain ⟨A9, c9, e9, hc9, hC9⟩ := Kd.R_reads HRJ.out
        cases e9
        have hF9 : Kd.F KdL wr (fun k => w.heap.size ≤ k) A1 acc.length acc := Kd.R_F HRJ.out
        have HF9 := Aside0.mk hF9
        have HC9 := Aside0.mk hc9
        clear hpj hC9 hF9 hc9
        have HIS := Aside0.mk (isFrame_any A1 c1 acc wr (Kd.F_now HF9.out) HC9.out)
        cases hokf : okF acc with
        | true =>
          rw [hokf] at HIS
          rw [show outR 0 acc = acc from rfl, hokf, if_pos rfl] at HA
          clear hokf
          go_wp2_with fail
          refine HIS.out.mono ?_
          rintro e w6 ⟨rfl, hd⟩
          have HB6 := Aside0.mk hd.below
          clear hd
          go_wp2_with fail
          go_ret2
          unfold FReadPost
          rw [HA.out]
          exact ⟨_, _, rfl, HC9.out, Kd.F_below HF9.out HB6.out, HBJ.out.below HB6.out, HFJ.out.trans (Fr.below HB6.out _)⟩
        | false =>
          rw [hokf] at HIS
          rw [show outR 0 acc = acc from rfl, hokf, if_neg (by simp)] at HA
          clear hokf
          go_wp2_with fail
          refine HIS.out.mono ?_
          rintro e w6 ⟨rfl, hd⟩
          have HB6 := Aside0.mk hd.below
          clear hd
          go_wp2_with fail
          go_ret2
          unfold FReadPost
          rw [HA.out]
          exact ⟨none, 0, rfl, Nat.le_refl _, nilF _ _, HBJ.out.below HB6.out, HFJ.out.trans (Fr.below HB6.out _)⟩
  · have hmr : midR L a 2 = rGet L a 1 := rfl
    rw [hmr] at HA
    have h01 := hR.bits
    have hgo := @rGet_ok L a 1 h01
    have hg := Get_any S p a L 1 w hR
    unfold RdPost at hg
    rw [show ((1 : Nat) : Int) = 1 from rfl] at hgo
    generalize rGet L a 1 = gg at *
    obtain ⟨kI, e0, b0⟩ := gg
    dsimp only at HA hgo hg
    have HG := Aside0.mk hg
    have HCI := Aside0.mk (show cI = 2 by omega)
    have d2 : (cI == 2) = true := by have := HCI.out; simp; omega
    clear hR hn hmr hcI h01 hg
    by_cases he0 : e0 = 0
    case neg =>
      rw [if_pos he0] at HA
      have q1 : (e0 != 0) = true := by simpa using he0
      clear he0 hgo
      go_enter Tryz.func47, Tryz.ntmps47
      go_wp2_with fail
      refine HG.out.mono ?_
      rintro e w2 ⟨rfl, hr, hf⟩
      have HR2 := Aside0.mk hr
      have HF2 := Aside0.mk hf
      clear hr hf
      go_wp2_with fail
      go_ret2
      unfold FReadPost
      rw [HA.out]
      exact ⟨none, 0, rfl, Nat.le_refl _, nilF _ _, HR2.out, HF2.out⟩
    subst he0
    rw [if_neg (by simp)] at HA
    have hk01 : 0 ≤ kI ∧ kI < 2 := by have := hgo rfl; simpa using this
    clear hgo
    generalize hRs : sigsR L n 2 b0 [] = Rs at *
    have HR0 := Aside0.mk hRs
    clear hRs
    go_enter Tryz.func47, Tryz.ntmps47
    go_wp2_with fail
    refine HG.out.mono ?_
    rintro e w2 ⟨rfl, hr, hf⟩
    have HR2 := Aside0.mk hr
    have HF2 := Aside0.mk hf
    clear hr hf
    go_wp2_with fail
    go_loopw [10, 24] (fun v u wr => ∃ (i b : Nat) (acc : List (List Int)) (A1 : Option Addr) (c1 : Nat), v = .slice A1 acc.length c1 ∧ u = .int .i64 (i : Int) ∧ i ≤ 2 ∧ Aside0 (sigsR L n (2 - i) b acc = Rs) ∧ Aside0 (acc.length = i ∧ ∀ l ∈ acc, l.length = n ∧ chkS l = 0) ∧ Aside0 (Kd.R KdL 22 wr w.heap.size (fun k => w.heap.size ≤ k) v acc) ∧ Aside0 (Rd wr S p L b) ∧ Aside0 (Fr (fun k => k = p) w wr)) (fun _ u _ => 2 - (intOf u).toNat)
    case atStart => exact ⟨0, b0, [], none, 0, rfl, rfl, by omega, HR0, ⟨rfl, fun l hl => by cases hl⟩, ⟨Kd.R_nil _ _ _ _ _⟩, HR2, HF2⟩
    case round =>
      obtain ⟨i, b, acc, A1, c1, rfl, rfl, hi, HPJ, HAJ, HRJ, HBJ, HFJ⟩ := hrel
      by_cases hlt : i < 2
      · have d1 : decide ((i : Int) < cI) = true := by have := HCI.out; simp; omega
        have hgs := HSG.out b wr HBJ.out
        have hso := HSO.out b
        have hpj := HPJ.out
        rw [show 2 - i = (2 - (i + 1)) + 1 by omega, sigsR] at hpj
        unfold LReadPost at hgs
        generalize sigR L b n = gg at *
        obtain ⟨x, e2, b2⟩ := gg
        dsimp only at hgs hpj hso
        have HGG := Aside0.mk hgs
        clear hgs
        by_cases he2 : e2 = 0
        case neg =>
          rw [if_pos he2] at hpj
          have q1 : (e2 != 0) = true := by simpa using he2
          have HPJ2 := Aside0.mk hpj
          have HE2 := Aside0.mk he2
          clear he2 hpj hso
          go_wp2_with fail
          refine HGG.out.mono ?_
          rintro e w4 ⟨v4, rfl, hv, hr, hf⟩
          obtain ⟨A4, c4, rfl⟩ := hv.slice
          have HR4 := Aside0.mk hr
          have HF4 := Aside0.mk (HFJ.out.trans hf)
          clear hv hr hf
          go_wp2_with fail
          go_ret2
          rw [← HPJ2.out] at HA
          rw [if_pos HE2.out] at HA
          unfold FReadPost
          rw [HA.out]
          exact ⟨none, 0, rfl, Nat.le_refl _, nilF _ _, HR4.out, HF4.out⟩
        subst he2
        rw [if_neg (by simp)] at hpj
        obtain ⟨hxl, hxk⟩ := hso rfl
        have HPJ2 := Aside0.mk hpj
        have HXL := Aside0.mk (show x.length = n ∧ chkS x = 0 from ⟨hxl, hxk⟩)
        clear hpj hxl hxk hso
        go_wp2_with fail
        refine HGG.out.mono ?_
        rintro e w4 ⟨v4, rfl, hv, hr, hf⟩
        obtain ⟨A4, c4, rfl⟩ := hv.slice
        have ho4 := R_fr HRJ.out hf (fun k hk _ e => by have h1 : w.heap.size ≤ k := hk; have := HPL.out; omega)
        have hsz := HFJ.out.size
        have hsz2 := hf.size
        have hm4 : KdL.M w4 w.heap.size (fun k => wr.heap.size ≤ k) x [.slice A4 x.length c4] := ⟨_, rfl, Kd.R_of_own (hv.mono hsz) (fun k hk => (hv.block k hk).2)⟩
        have hlt4 : ∀ k, (Value.slice A1 acc.length c1).ownBlock = some k → k < wr.heap.size := fun k hk => Kd.R_lt HRJ.out k hk
        have HO4 := Aside0.mk ho4
        have HM4 := Aside0.mk hm4
        have HLT4 := Aside0.mk hlt4
        have HR4 := Aside0.mk hr
        have HF4 := Aside0.mk (HFJ.out.trans hf)
        have HSZ := Aside0.mk (show w.heap.size ≤ wr.heap.size ∧ wr.heap.size ≤ w4.heap.size ∧ acc.length ≤ 2 from ⟨hsz, hsz2, by have := HAJ.out.1; omega⟩)
        clear hv hr hf ho4 hm4 hlt4 hsz hsz2
        go_wp2_with (at_builtin; refine Kd.R_append KdL (w0 := w4) w.heap.size rfl (.tmp 35) (.tmp 37) 27 22 (.slice none 0 0) 24 rfl Tryz.underlying27 info22 rfl (by decide) (by decide) (.slice A1 acc.length c1) acc x [.slice A4 x.length c4] (fun k => w.heap.size ≤ k) (fun k => wr.heap.size ≤ k) rfl rfl HM4.out (fun k hk => ⟨Nat.le_trans HSZ.out.1 hk, fun e => by have := HLT4.out k e.symm; have h1 : wr.heap.size ≤ k := hk; omega⟩) (fun k hk => Nat.le_trans (Nat.le_trans HSZ.out.1 HSZ.out.2.1) hk) HO4.out (Below.refl _ _) (Nat.le_trans HSZ.out.1 HSZ.out.2.1) (by have := HSZ.out.2.2; omega) ?_; intro v5 w5 ho hb hg hat; have HO5 := Aside0.mk ho; have HB5 := Aside0.mk hb; have HG5 := Aside0.mk hg; clear ho hb hg hat)
        obtain ⟨A5, c5, e5⟩ := Kd.R_slice HO5.out
        subst e5
        have hgf : Fr (fun k => k < wr.heap.size ∧ w.heap.size ≤ k ∧ ∃ cs, w4.heap[k]? = some (.cells cs 22 (0, 0))) w4 w5 := ((Fr.refl _ _)).grown HG5.out (fun k hk e => ⟨HLT4.out k e, Kd.R_base HRJ.out k e, Kd.R_typed HO4.out k e⟩)
        have HR5 := Aside0.mk (HR4.out.fr hgf (fun e => by have := HPL.out; omega) (fun k hk e => by
          obtain ⟨_, _, cs, hcs⟩ := e
          obtain ⟨cs', hcs'⟩ := HR4.out.typed k hk
          rw [hcs] at hcs'
          cases hcs'))
        have HF5 := Aside0.mk (HF4.out.next hgf (fun i hi h => by have := h.2.1; omega))
        clear hgf
        have hl5 : (acc ++ [x]).length = acc.length + 1 := by simp
        go_roundw
        case rel => exact ⟨i + 1, b2, acc ++ [x], A5, c5, rfl, by go_num, by omega, HPJ2, ⟨by rw [hl5, HAJ.out.1], fun l hl => by
          rcases List.mem_append.1 hl with h | h
          · exact HAJ.out.2 l h
          · rw [List.mem_singleton.1 h]; exact HXL.out⟩, HO5, HR5, HF5⟩
        case measure => simp [intOf]; omega
      · have d1 : decide ((i : Int) < cI) = false := by have := HCI.out; simp; omega
        have hpj := HPJ.out
        rw [show 2 - i = 0 by omega, sigsR] at hpj
        have HIE := Aside0.mk (show i = 2 by omega)
        clear hlt hi
        rw [← hpj] at HA
        rw [if_neg (by simp)] at HA
        dsimp only at HA
        obtain ⟨A9, c9, e9, hc9, hC9⟩ := Kd.R_reads HRJ.out
        cases e9
        have hF9 : Kd.F KdL wr (fun k => w.heap.size ≤ k) A1 acc.length acc := Kd.R_F HRJ.out
        have HF9 := Aside0.mk hF9
        have HC9 := Aside0.mk hc9
        clear hpj hC9 hF9 hc9
        rcases (show kI = 0 ∨ kI = 1 by omega) with rfl | rfl
        · clear hk01
          obtain ⟨k0, hk0⟩ : ∃ z : Int, z = 0 := ⟨_, rfl⟩
          have HIS := Aside0.mk (isFrame_any A1 c1 acc wr (Kd.F_now HF9.out) HC9.out)
          cases hokf : okF acc with
          | true =>
            rw [hokf] at HIS
            rw [show outR 0 acc = acc from rfl, hokf, if_pos rfl] at HA
            clear hokf
            go_wp2_with fail
            refine HIS.out.mono ?_
            rintro e w6 ⟨rfl, hd⟩
            have HB6 := Aside0.mk hd.below
            clear hd
            go_wp2_with fail
            go_ret2
            unfold FReadPost
            rw [HA.out]
            exact ⟨_, _, rfl, HC9.out, Kd.F_below HF9.out HB6.out, HBJ.out.below HB6.out, HFJ.out.trans (Fr.below HB6.out _)⟩
          | false =>
            rw [hokf] at HIS
            rw [show outR 0 acc = acc from rfl, hokf, if_neg (by simp)] at HA
            clear hokf
            go_wp2_with fail
            refine HIS.out.mono ?_
            rintro e w6 ⟨rfl, hd⟩
            have HB6 := Aside0.mk hd.below
            clear hd
            go_wp2_with fail
            go_ret2
            unfold FReadPost
            rw [HA.out]
            exact ⟨none, 0, rfl, Nat.le_refl _, nilF _ _, HBJ.out.below HB6.out, HFJ.out.trans (Fr.below HB6.out _)⟩
        · clear hk01
          have hal : acc.length = 2 := by rw [HAJ.out.1, HIE.out]
          obtain ⟨x, y, hxy⟩ : ∃ x y, acc = [x, y] := by
            match acc, hal with
            | [x, y], _ => exact ⟨x, y, rfl⟩
          have hx := HAJ.out.2 x (by rw [hxy]; simp)
          have hy := HAJ.out.2 y (by rw [hxy]; simp)
          have hgx : acc.getD 0 [] = x ∧ acc.getD 1 [] = y := by rw [hxy]; exact ⟨rfl, rfl⟩
          obtain ⟨ad, A2, c2, e0, hx0, hc2, hC2⟩ := F_row HF9.out 0 (by omega)
          obtain ⟨ad', A3, c3, e1, hx1, hc3, hC3⟩ := F_row HF9.out 1 (by omega)
          subst e0
          cases e1
          rw [hgx.1, hx.1] at hx0 hc2 hC2
          rw [hgx.2, hy.1] at hx1 hc3 hC3
          rw [show ad.add 0 = ad by simp [Addr.add]] at hx0
          rw [show ad.add 1 = ⟨ad.block, ad.off + 1, none⟩ from rfl] at hx1
          have hor : outR 1 acc = [lefL x y, rigL x y] := by unfold outR; rw [if_pos rfl, hgx.1, hgx.2]
          have HX0 : Aside0 (∀ w', Below wr.heap.size wr w' → w'.cell? ad = some (.slice A2 n c2)) := ⟨fun w' hb => pw_cell_below hb hx0⟩
          have HX1 : Aside0 (∀ w', Below wr.heap.size wr w' → w'.cell? ⟨ad.block, ad.off + 1, none⟩ = some (.slice A3 n c3)) := ⟨fun w' hb => pw_cell_below hb hx1⟩
          have hsx := (chkS_zero.1 hx.2).2
          have hsy := (chkS_zero.1 hy.2).2
          have HSD := Aside0.mk (fun W (hb : Below wr.heap.size wr W) => sides_any A2 c2 x A3 c3 y n W (Kd.F_now (Kd.F_below hC2 hb)) hc2 (Kd.F_now (Kd.F_below hC3 hb)) hc3 hx.1 hy.1 HNN.out hsx hsy)
          have HIS := Aside0.mk (fun A7 c7 W hC hc => isFrame_any A7 c7 [lefL x y, rigL x y] W hC hc)
          rw [hor] at HA
          obtain ⟨zs, hzs⟩ : ∃ zs, zs = [lefL x y, rigL x y] := ⟨_, rfl⟩
          rw [← hzs] at HA HIS
          have HZ := Aside0.mk hzs
          have HZL : Aside0 (zs.length = 2) := ⟨by rw [hzs]; rfl⟩
          obtain ⟨mI, hmI⟩ : ∃ mI : Int, (acc.length : Int) = mI := ⟨_, rfl⟩
          have hm0 : (0 : Int) < mI := by omega
          have hm1 : (1 : Int) < mI := by omega
          clear hx hy hgx hx0 hx1 hc2 hc3 hC2 hC3 hor hsx hsy hzs hal hxy
          go_wp2
          (try rw [hmI])
          refine wp_region_held_drew (S := fun w' => Below wr.heap.size wr w') (by kernel_rfl) (below_drew (Below.refl _ _)) (fun hHeld => ?_)
          refine wpAnyH_take (i := 0) (v := ?_) rfl (by kernel_rfl) (by kernel_rfl) (by kernel_rfl) (fun _ _ _ h => h) (Or.inl ⟨by rfl, ?_⟩) (by assumption) ?_
          rotate_left
          · (intro w hSw; (try dsimp only at hSw); go_simp; (try with_reducible rfl))
          (try simp only [Act.put, List.getElem_toArray, List.getElem_cons_zero, List.getElem_cons_succ, List.setIfInBounds_toArray, List.set_cons_zero, List.set_cons_succ])
          refine wpAnyH_take (i := 1) (v := ?_) rfl (by kernel_rfl) (by kernel_rfl) (by kernel_rfl) (fun _ _ _ h => h) (Or.inl ⟨by rfl, ?_⟩) (by assumption) ?_
          rotate_left
          · (intro w hSw; (try dsimp only at hSw); go_simp; (try with_reducible rfl))
          (try simp only [Act.put, List.getElem_toArray, List.getElem_cons_zero, List.getElem_cons_succ, List.setIfInBounds_toArray, List.set_cons_zero, List.set_cons_succ])
          refine wpAnyH_take (i := 2) (v := ?_) rfl (by kernel_rfl) (by kernel_rfl) (by kernel_rfl) (fun _ _ _ h => h) (Or.inl ⟨by rfl, ?_⟩) (by assumption) ?_
          rotate_left
          · (intro w hSw; (try dsimp only at hSw); have z := HX0.out w hSw; go_simp; (try with_reducible rfl))
          (try simp only [Act.put, List.getElem_toArray, List.getElem_cons_zero, List.getElem_cons_succ, List.setIfInBounds_toArray, List.set_cons_zero, List.set_cons_succ])
          refine wpAnyH_take (i := 3) (v := ?_) rfl (by kernel_rfl) (by kernel_rfl) (by kernel_rfl) (fun _ _ _ h => h) (Or.inl ⟨by rfl, ?_⟩) (by assumption) ?_
          rotate_left
          · (intro w hSw; (try dsimp only at hSw); go_simp; (try with_reducible rfl))
          (try simp only [Act.put, List.getElem_toArray, List.getElem_cons_zero, List.getElem_cons_succ, List.setIfInBounds_toArray, List.set_cons_zero, List.set_cons_succ])
          refine wpAnyH_take (i := 4) (v := ?_) rfl (by kernel_rfl) (by kernel_rfl) (by kernel_rfl) (fun _ _ _ h => h) (Or.inl ⟨by rfl, ?_⟩) (by assumption) ?_
          rotate_left
          · (intro w hSw; (try dsimp only at hSw); go_simp; (try with_reducible rfl))
          (try simp only [Act.put, List.getElem_toArray, List.getElem_cons_zero, List.getElem_cons_succ, List.setIfInBounds_toArray, List.set_cons_zero, List.set_cons_succ])
          refine wpAnyH_take (i := 5) (v := ?_) rfl (by kernel_rfl) (by kernel_rfl) (by kernel_rfl) (fun _ _ _ h => h) (Or.inl ⟨by rfl, ?_⟩) (by assumption) ?_
          rotate_left
          · (intro w hSw; (try dsimp only at hSw); have z := HX1.out w hSw; go_simp; (try with_reducible rfl))
          (try simp only [Act.put, List.getElem_toArray, List.getElem_cons_zero, List.getElem_cons_succ, List.setIfInBounds_toArray, List.set_cons_zero, List.set_cons_succ])
          refine wpAnyH_ready (rs := [6]) (by kernel_rfl) (by simp) ?_
          refine AllReadyH.cons rfl (fun K hK => ?_) AllReadyH.nil
          go_simp
          refine (HSD.out wr.drew (below_drew (Below.refl _ _))).mono ?_
          rintro e w7 ⟨A7, c7, rfl, hF7, hc7, hb7⟩
          have hb67 : Below wr.heap.size wr w7 := (below_drew (Below.refl _ _)).trans hb7
          have HB67 := Aside0.mk hb67
          have hF7' : Kd.F KdL w7 (fun k => w.heap.size ≤ k) A7 2 zs := by rw [HZ.out]; exact Kd.F_mono hF7 (fun k hk => Nat.le_trans HFJ.out.size hk)
          have HF7 := Aside0.mk hF7'
          have HC7 := Aside0.mk hc7
          have his := HIS.out A7 c7 w7 (by rw [HZL.out]; exact Kd.F_now hF7') (by rw [HZL.out]; exact hc7)
          rw [HZL.out] at his
          have HIS2 := Aside0.mk his
          clear hF7 hc7 hb7 hb67 hF7' his HIS
          (try go_simp)
          refine hK.out _ _ ?_ (fun hHeld => ?_)
          · exact HB67.out
          clear hK K
          (try simp only [Act.put, List.getElem_toArray, List.getElem_cons_zero, List.getElem_cons_succ, List.setIfInBounds_toArray, List.set_cons_zero, List.set_cons_succ])
          refine wpAnyH_take (i := 7) (v := ?_) rfl (by kernel_rfl) (by kernel_rfl) (by kernel_rfl) (fun _ _ _ h => h) (Or.inl ⟨by rfl, ?_⟩) (by assumption) ?_
          rotate_left
          · (intro w hSw; (try dsimp only at hSw); go_simp; (try with_reducible rfl))
          (try simp only [Act.put, List.getElem_toArray, List.getElem_cons_zero, List.getElem_cons_succ, List.setIfInBounds_toArray, List.set_cons_zero, List.set_cons_succ])
          refine wpAnyH_done (by kernel_rfl) ?_ _
          (try simp only [Exit.then])
          cases hokf : okF zs with
          | true =>
            rw [hokf] at HIS2
            rw [hokf, if_pos rfl] at HA
            clear hokf
            go_wp2_with fail
            refine HIS2.out.mono ?_
            rintro e w8 ⟨rfl, hd⟩
            have HB8 := Aside0.mk hd.below
            clear hd
            go_wp2_with fail
            go_ret2
            unfold FReadPost
            rw [HA.out]
            dsimp only
            rw [HZL.out]
            exact ⟨_, _, rfl, HC7.out, Kd.F_below HF7.out HB8.out, (HBJ.out.below HB67.out).below HB8.out, (HFJ.out.trans (Fr.below HB67.out _)).trans (Fr.below HB8.out _)⟩
          | false =>
            rw [hokf] at HIS2
            rw [hokf, if_neg (by simp)] at HA
            clear hokf
            go_wp2_with fail
            refine HIS2.out.mono ?_
            rintro e w8 ⟨rfl, hd⟩
            have HB8 := Aside0.mk hd.below
            clear hd
            go_wp2_with fail
            go_ret2
            unfold FReadPost
            rw [HA.out]
            exact ⟨none, 0, rfl, Nat.le_refl _, nilF _ _, (HBJ.out.below HB67.out).below HB8.out, (HFJ.out.trans (Fr.below HB67.out _)).trans (Fr.below HB8.out _)⟩
def isN (ch n : Int) : Bool := decide (1 ≤ ch) && (decide (ch ≤ 2) && (decide (1 ≤ n) && decide (n ≤ 128)))
theorem isN_iff (ch n : Int) : isN ch n = true ↔ (1 ≤ ch ∧ ch ≤ 2) ∧ 1 ≤ n ∧ n ≤ 128 := by simp [isN, and_assoc]
theorem is_any (ch n : Int) (w : World) : Calls Tryz.prog 46 #[.int .i64 ch, .int .i64 n] w fun e w' => e = .returned (.bool (isN ch n)) ∧ Drawn0 w w' := by
  refine lossless_is.calls ch n _ w ?_
  unfold lossless_is.f isN
  by_cases h1 : 1 ≤ ch
  · rw [if_pos (show ch ≥ 1 from h1), decide_eq_true h1]
    by_cases h2 : ch ≤ 2
    · rw [if_pos h2, decide_eq_true h2]
      by_cases h3 : 1 ≤ n
      · rw [if_pos (show n ≥ 1 from h3), decide_eq_true h3]; rfl
      · rw [if_neg (show ¬ n ≥ 1 from h3), decide_eq_false h3]; rfl
    · rw [if_neg h2, decide_eq_false h2]; rfl
  · rw [if_neg (show ¬ ch ≥ 1 from h1), decide_eq_false h1]; rfl
def fReadF (L : List Int) (a : Nat) (ch n : Int) : List (List Int) × Int × Nat :=
  if isN ch n then (if (readR L a ch.toNat n.toNat).2.1 ≠ 0 then ([], (readR L a ch.toNat n.toNat).2.1, a) else readR L a ch.toNat n.toNat) else ([], 1, a)
theorem ReadF_any (S : Nat → Prop) (p a : Nat) (ch n : Int) (L : List Int) (w : World) (hR : Rd w S p L a) :
    Calls Tryz.prog 20 #[.pointer (some ⟨p, 0, none⟩), .int .i64 ch, .int .i64 n] w (FReadPost w S p L (fReadF L a ch n)) := by
  have HI := Aside0.mk (is_any ch n w)
  have HA : Aside0 (fReadF L a ch n = _) := ⟨fReadF.eq_1 L a ch n⟩
  have HR := Aside0.mk hR
  have HSK := Aside0.mk (fun b W (h : Rd W S p L b) => Seek_any S p b L (a : Int) W h)
  have HAT := Aside0.mk (fun W (h : Rd W S p L a) => At_any S p a L W h)
  have hal := hR.at_le
  by_cases hi : isN ch n = true
  case neg =>
    have hi : isN ch n = false := by simpa using hi
    rw [hi] at HI HA
    rw [if_neg (by simp)] at HA
    clear hi hR hal HSK HAT
    generalize fReadF L a ch n = R at *
    go_enter Tryz.func20, Tryz.ntmps20
    go_wp2_with fail
    refine HI.out.mono ?_
    rintro e w1 ⟨rfl, hd⟩
    have HB1 := Aside0.mk hd.below
    clear hd
    go_wp2_with fail
    go_ret2
    unfold FReadPost
    rw [HA.out]
    exact ⟨none, 0, rfl, Nat.le_refl _, nilF _ _, HR.out.below HB1.out, Fr.below HB1.out _⟩
  obtain ⟨⟨h1, h2⟩, h3, h4⟩ := (isN_iff ch n).1 hi
  rw [hi] at HI HA
  rw [if_pos rfl] at HA
  obtain ⟨c, rfl⟩ : ∃ c : Nat, ch = c := ⟨ch.toNat, by omega⟩
  obtain ⟨m, rfl⟩ : ∃ m : Nat, n = m := ⟨n.toNat, by omega⟩
  rw [Int.toNat_natCast, Int.toNat_natCast] at HA
  have HRD := Aside0.mk (fun W (h : Rd W S p L a) => readF_any S p a c m L W h (by omega) (by omega))
  unfold FReadPost at HRD
  generalize fReadF L a c m = R at *
  generalize readR L a c m = rr at *
  obtain ⟨ls, e2, b2⟩ := rr
  dsimp only at HRD HA
  obtain ⟨cI, hcI⟩ : ∃ cI : Int, (c : Int) = cI := ⟨_, rfl⟩
  obtain ⟨mI, hmI⟩ : ∃ mI : Int, (m : Int) = mI := ⟨_, rfl⟩
  rw [hcI, hmI] at HRD HI ⊢
  have hsk : rSeek L b2 (a : Int) = (0, a) := by unfold rSeek; rw [if_neg (by omega), Int.toNat_natCast]
  have HSK2 := Aside0.mk (HSK.out b2)
  rw [hsk] at HSK2
  clear hi h1 h2 h3 h4 hcI hmI hR hal hsk HSK
  by_cases he2 : e2 = 0
  case neg =>
    rw [if_pos he2] at HA
    have q2 : (e2 != 0) = true := by simpa using he2
    clear he2
    go_enter Tryz.func20, Tryz.ntmps20
    go_wp2_with fail
    refine HI.out.mono ?_
    rintro e w1 ⟨rfl, hd⟩
    have HB1 := Aside0.mk hd.below
    clear hd
    go_wp2_with fail
    refine (HAT.out w1 (HR.out.below HB1.out)).mono ?_
    rintro e w2 ⟨rfl, hw⟩
    obtain rfl := hw.symm
    go_wp2_with fail
    refine (HRD.out w1 (HR.out.below HB1.out)).mono ?_
    rintro e w3 ⟨A3, c3, rfl, hc3, hF3, hr, hf⟩
    have HR3 := Aside0.mk hr
    have HF3 := Aside0.mk ((Fr.below HB1.out _).trans hf)
    clear hc3 hF3 hr hf
    go_wp2_with fail
    refine (HSK2.out w3 HR3.out).mono ?_
    rintro e w4 ⟨rfl, hr, hf⟩
    have HR4 := Aside0.mk hr
    have HF4 := Aside0.mk (HF3.out.trans hf)
    clear hr hf
    go_wp2_with fail
    go_ret2
    unfold FReadPost
    rw [HA.out]
    exact ⟨none, 0, rfl, Nat.le_refl _, nilF _ _, HR4.out, HF4.out⟩
  subst he2
  rw [if_neg (by simp)] at HA
  go_enter Tryz.func20, Tryz.ntmps20
  go_wp2_with fail
  refine HI.out.mono ?_
  rintro e w1 ⟨rfl, hd⟩
  have HB1 := Aside0.mk hd.below
  clear hd
  go_wp2_with fail
  refine (HAT.out w1 (HR.out.below HB1.out)).mono ?_
  rintro e w2 ⟨rfl, hw⟩
  obtain rfl := hw.symm
  go_wp2_with fail
  refine (HRD.out w1 (HR.out.below HB1.out)).mono ?_
  rintro e w3 ⟨A3, c3, rfl, hc3, hF3, hr, hf⟩
  have HR3 := Aside0.mk hr
  have HF3 := Aside0.mk ((Fr.below HB1.out _).trans hf)
  have HC3 := Aside0.mk hc3
  have HFF := Aside0.mk hF3
  clear hc3 hF3 hr hf
  go_wp2_with fail
  go_ret2
  unfold FReadPost
  rw [HA.out]
  exact ⟨A3, c3, rfl, HC3.out, Kd.F_mono HFF.out (fun k hk => Nat.le_trans HB1.out.size hk), HR3.out, HF3.out⟩
def restB (L : List Int) (r : List (List Int) × Int × Nat) : List (List Int) × Int :=
  if r.2.1 ≠ 0 then ([], r.2.1) else if 8 ≤ (L.length : Int) - r.2.2 then ([], 4) else if (rGet L r.2.2 ((L.length : Int) - r.2.2)).1 ≠ 0 then ([], 4) else (r.1, 0)
def fSamp (B : List Int) (ch n : Int) : List (List Int) × Int :=
  if isN ch n then (if 2047 < B.length then ([], 2) else restB (ofB B (8 * B.length)) (fReadF (ofB B (8 * B.length)) 0 ch n)) else ([], 1)
def LsPost (w : World) (r : List (List Int) × Int) (e : Ending) (w' : World) : Prop :=
  ∃ A c, e = .returned (.tuple #[.slice A r.1.length c, .int .i64 r.2]) ∧ r.1.length ≤ c ∧ Kd.F KdL w' (fun k => w.heap.size ≤ k) A r.1.length r.1 ∧ Below w.heap.size w w'
theorem Samples_any (A : Option Addr) (c : Nat) (B : List Int) (ch n : Int) (w : World) (hC : Kd.C (Kd.int .u8) w A B.length B) (hB : is8 B) (hBl : B.length ≤ 1000000000) (hc : B.length ≤ c) :
    Calls Tryz.prog 39 #[.slice A B.length c, .int .i64 ch, .int .i64 n] w (LsPost w (fSamp B ch n)) := by
  have HI := Aside0.mk (is_any ch n w)
  have HA : Aside0 (fSamp B ch n = _) := ⟨fSamp.eq_1 B ch n⟩
  by_cases hi : isN ch n = true
  case neg =>
    have hi : isN ch n = false := by simpa using hi
    rw [hi] at HI HA
    rw [if_neg (by simp)] at HA
    generalize fSamp B ch n = R at *
    clear hi hC hB hBl hc
    go_enter Tryz.func39, Tryz.ntmps39
    go_wp2_with fail
    refine HI.out.mono ?_
    rintro e w1 ⟨rfl, hd⟩
    have HB1 := Aside0.mk hd.below
    clear hd
    go_wp2_with fail
    go_ret2
    unfold LsPost
    rw [HA.out]
    exact ⟨none, 0, rfl, Nat.le_refl _, nilF _ _, HB1.out⟩
  rw [hi] at HI HA
  rw [if_pos rfl] at HA
  by_cases hl : 2047 < B.length
  · rw [if_pos hl] at HA
    have d1 : decide ((2047 : Int) < (B.length : Int)) = true := by simp; omega
    generalize fSamp B ch n = R at *
    clear hi hC hB hBl hc hl
    go_enter Tryz.func39, Tryz.ntmps39
    go_wp2_with fail
    refine HI.out.mono ?_
    rintro e w1 ⟨rfl, hd⟩
    have HB1 := Aside0.mk hd.below
    clear hd
    go_wp2_with fail
    go_ret2
    unfold LsPost
    rw [HA.out]
    exact ⟨none, 0, rfl, Nat.le_refl _, nilF _ _, HB1.out⟩
  rw [if_neg hl] at HA
  have d1 : decide ((2047 : Int) < (B.length : Int)) = false := by simp; omega
  have hop := fun W (hb : Below w.heap.size w W) => Open_any A c B (8 * (B.length : Int)) W (Kd.C_below hC hb) hB hBl hc
  have hoe : openE B (8 * (B.length : Int)) = 0 := by unfold openE; rw [if_neg (by omega), if_neg (by omega)]
  have hop2 : ∀ W, Below w.heap.size w W → Calls Tryz.prog 18 #[.slice A B.length c, .int .i64 (8 * (B.length : Int))] W fun e w' => ∃ p S, e = .returned (.tuple #[.pointer (some ⟨p, 0, none⟩), .int .i64 0]) ∧ Rd w' S p (ofB B (8 * B.length)) 0 ∧ W.heap.size ≤ p ∧ (∀ k, S k → W.heap.size ≤ k) ∧ Below W.heap.size W w' := fun W hb => by
    refine (hop W hb).mono (fun e w' h => ?_)
    unfold OpenPost at h
    rw [if_pos hoe, show (8 * (B.length : Int)).toNat = 8 * B.length by omega] at h
    exact h
  have HOP := Aside0.mk hop2
  have HRD := Aside0.mk (fun S p W (h : Rd W S p (ofB B (8 * B.length)) 0) => ReadF_any S p 0 ch n _ W h)
  unfold FReadPost at HRD
  generalize fSamp B ch n = R at *
  generalize ofB B (8 * B.length) = L at *
  have hw8 : IntKind.i64.wrap (8 * (B.length : Int)) = 8 * (B.length : Int) := IntWalk.i64_in _ (by omega)
  generalize fReadF L 0 ch n = rr at *
  obtain ⟨ls, e2, b2⟩ := rr
  dsimp only at HRD
  unfold restB at HA
  dsimp only at HA
  have HLF := Aside0.mk (fun S p W (h : Rd W S p L b2) => Left_any S p b2 L W h)
  have HGT := Aside0.mk (fun S p W (h : Rd W S p L b2) => Get_any S p b2 L ((L.length : Int) - b2) W h)
  unfold RdPost at HGT
  generalize rGet L b2 ((L.length : Int) - b2) = gg at *
  obtain ⟨x, e3, b3⟩ := gg
  dsimp only at HGT HA
  generalize (L.length : Int) - b2 = lf at *
  clear hi hC hB hBl hc hl hop hoe hop2
  by_cases he2 : e2 = 0
  case neg =>
    rw [if_pos he2] at HA
    have q2 : (e2 != 0) = true := by simpa using he2
    clear he2
    go_enter Tryz.func39, Tryz.ntmps39
    go_wp2_with fail
    refine HI.out.mono ?_
    rintro e w1 ⟨rfl, hd⟩
    have HB1 := Aside0.mk hd.below
    clear hd
    go_wp2_with fail
    refine (HOP.out w1 HB1.out).mono ?_
    rintro e w2 ⟨p, S, rfl, hR, hp, hS, hb⟩
    have HR2 := Aside0.mk hR
    have HPW := Aside0.mk (Nat.le_trans HB1.out.size hp)
    have HB2 := Aside0.mk (HB1.out.trans (hb.mono HB1.out.size))
    clear hR hp hS hb
    go_wp2_with fail
    refine (HRD.out S p w2 HR2.out).mono ?_
    rintro e w3 ⟨A3, c3, rfl, hc3, hF3, hr, hf⟩
    have HB3 := Aside0.mk (HB2.out.trans (hf.to_below HB2.out.size (fun k hk => by rw [hk]; exact HPW.out)))
    clear hc3 hF3 hr hf
    go_wp2_with fail
    go_ret2
    unfold LsPost
    rw [HA.out]
    exact ⟨none, 0, rfl, Nat.le_refl _, nilF _ _, HB3.out⟩
  subst he2
  rw [if_neg (by simp)] at HA
  by_cases h8 : 8 ≤ lf
  · rw [if_pos h8] at HA
    have d2 : decide (8 ≤ lf) = true := decide_eq_true h8
    clear h8
    go_enter Tryz.func39, Tryz.ntmps39
    go_wp2_with fail
    refine HI.out.mono ?_
    rintro e w1 ⟨rfl, hd⟩
    have HB1 := Aside0.mk hd.below
    clear hd
    go_wp2_with fail
    refine (HOP.out w1 HB1.out).mono ?_
    rintro e w2 ⟨p, S, rfl, hR, hp, hS, hb⟩
    have HR2 := Aside0.mk hR
    have HPW := Aside0.mk (Nat.le_trans HB1.out.size hp)
    have HB2 := Aside0.mk (HB1.out.trans (hb.mono HB1.out.size))
    clear hR hp hS hb
    go_wp2_with fail
    refine (HRD.out S p w2 HR2.out).mono ?_
    rintro e w3 ⟨A3, c3, rfl, hc3, hF3, hr, hf⟩
    have HB3 := Aside0.mk (HB2.out.trans (hf.to_below HB2.out.size (fun k hk => by rw [hk]; exact HPW.out)))
    have HR3 := Aside0.mk hr
    clear hc3 hF3 hr hf
    go_wp2_with fail
    refine (HLF.out S p w3 HR3.out).mono ?_
    rintro e w4 ⟨rfl, k4, hw4⟩
    have HB4 : Aside0 (Below w.heap.size w w4) := ⟨by rw [hw4]; exact pw_below_drewN HB3.out k4⟩
    clear hw4
    go_wp2_with fail
    go_ret2
    unfold LsPost
    rw [HA.out]
    exact ⟨none, 0, rfl, Nat.le_refl _, nilF _ _, HB4.out⟩
  rw [if_neg h8] at HA
  have d2 : decide (8 ≤ lf) = false := decide_eq_false h8
  clear h8
  by_cases hx : x = 0
  · subst hx
    rw [if_neg (by simp)] at HA
    go_enter Tryz.func39, Tryz.ntmps39
    go_wp2_with fail
    refine HI.out.mono ?_
    rintro e w1 ⟨rfl, hd⟩
    have HB1 := Aside0.mk hd.below
    clear hd
    go_wp2_with fail
    refine (HOP.out w1 HB1.out).mono ?_
    rintro e w2 ⟨p, S, rfl, hR, hp, hS, hb⟩
    have HR2 := Aside0.mk hR
    have HPW := Aside0.mk (Nat.le_trans HB1.out.size hp)
    have HB2 := Aside0.mk (HB1.out.trans (hb.mono HB1.out.size))
    have HPL := Aside0.mk (show p < w2.heap.size from hR.p_lt)
    clear hR hp hS hb
    go_wp2_with fail
    refine (HRD.out S p w2 HR2.out).mono ?_
    rintro e w3 ⟨A3, c3, rfl, hc3, hF3, hr, hf⟩
    have HB3 := Aside0.mk (HB2.out.trans (hf.to_below HB2.out.size (fun k hk => by rw [hk]; exact HPW.out)))
    have HR3 := Aside0.mk hr
    have HC3 := Aside0.mk hc3
    have HF3 := Aside0.mk hF3
    clear hc3 hF3 hr hf
    go_wp2_with fail
    refine (HLF.out S p w3 HR3.out).mono ?_
    rintro e w4 ⟨rfl, k4, hw4⟩
    have hb34 : Below w3.heap.size w3 w4 := by rw [hw4]; exact pw_below_drewN (Below.refl _ _) k4
    have HB4 := Aside0.mk (HB3.out.trans (hb34.mono HB3.out.size))
    have HR4 := Aside0.mk (HR3.out.below hb34)
    have HF4 := Aside0.mk (Kd.F_below HF3.out hb34)
    clear hw4 hb34
    go_wp2_with fail
    refine (HGT.out S p w4 HR4.out).mono ?_
    rintro e w5 ⟨rfl, hr, hf⟩
    have HB5 := Aside0.mk (HB4.out.trans (hf.to_below HB4.out.size (fun k hk => by rw [hk]; exact HPW.out)))
    have hF5 : Kd.F KdL w5 (fun k => w2.heap.size ≤ k) A3 ls.length ls := Kd.F_step HF4.out (fun k hk hlt => hf.block k hlt (fun e => by have := HPL.out; have h1 : w2.heap.size ≤ k := hk; omega))
    have HF5 := Aside0.mk hF5
    clear hr hf hF5
    go_wp2_with fail
    go_ret2
    unfold LsPost
    rw [HA.out]
    exact ⟨A3, c3, rfl, HC3.out, Kd.F_mono HF5.out (fun k hk => Nat.le_trans HB2.out.size hk), HB5.out⟩
  · rw [if_pos hx] at HA
    have q3 : (x != 0) = true := by simpa using hx
    clear hx
    go_enter Tryz.func39, Tryz.ntmps39
    go_wp2_with fail
    refine HI.out.mono ?_
    rintro e w1 ⟨rfl, hd⟩
    have HB1 := Aside0.mk hd.below
    clear hd
    go_wp2_with fail
    refine (HOP.out w1 HB1.out).mono ?_
    rintro e w2 ⟨p, S, rfl, hR, hp, hS, hb⟩
    have HR2 := Aside0.mk hR
    have HPW := Aside0.mk (Nat.le_trans HB1.out.size hp)
    have HB2 := Aside0.mk (HB1.out.trans (hb.mono HB1.out.size))
    clear hR hp hS hb
    go_wp2_with fail
    refine (HRD.out S p w2 HR2.out).mono ?_
    rintro e w3 ⟨A3, c3, rfl, hc3, hF3, hr, hf⟩
    have HB3 := Aside0.mk (HB2.out.trans (hf.to_below HB2.out.size (fun k hk => by rw [hk]; exact HPW.out)))
    have HR3 := Aside0.mk hr
    clear hc3 hF3 hr hf
    go_wp2_with fail
    refine (HLF.out S p w3 HR3.out).mono ?_
    rintro e w4 ⟨rfl, k4, hw4⟩
    have hb34 : Below w3.heap.size w3 w4 := by rw [hw4]; exact pw_below_drewN (Below.refl _ _) k4
    have HB4 := Aside0.mk (HB3.out.trans (hb34.mono HB3.out.size))
    have HR4 := Aside0.mk (HR3.out.below hb34)
    clear hw4 hb34
    go_wp2_with fail
    refine (HGT.out S p w4 HR4.out).mono ?_
    rintro e w5 ⟨rfl, hr, hf⟩
    have HB5 := Aside0.mk (HB4.out.trans (hf.to_below HB4.out.size (fun k hk => by rw [hk]; exact HPW.out)))
    clear hr hf
    go_wp2_with fail
    go_ret2
    unfold LsPost
    rw [HA.out]
    exact ⟨none, 0, rfl, Nat.le_refl _, nilF _ _, HB5.out⟩
end Go.Proofs.YtjcijaojcgampaaGreatDoor.P
end
section
namespace Go.Proofs.YtjcijaojcgampaaGreatDoor.P
open Go.RowKit Go.Shelf Go.Proofs.YtjcijaojcgampaaGreatDoor.Bits Go.Proofs.YtjcijaojcgampaaGreatDoorW.PrintWords Go.Proofs.YtjcijaojcgampaaGreatDoorW.PrintLast Go.Proofs.YtjcijaojcgampaaGreatDoorW.PrintMore
set_option maxRecDepth 100000
def zrs : List (List Int) := [List.replicate 128 0]
def exs : List (List Int) := [[1, 2, 3], [1, 2, 4]]
theorem awk_plan : fPlan [7] = (2, 0, 16, 0) := by kernel_rfl
theorem awk_cost : fCostP [7] 1 0 = (19, 0) := by kernel_rfl
theorem awk_size : fSize zrs = (19, 0) := by kernel_rfl
theorem awk_bytes : (fBytes exs).2 = 0 := by kernel_rfl
theorem awk_samp : fSamp (fBytes exs).1 2 3 = (exs, 0) := by kernel_rfl
theorem awk_ok : okF zrs = true := by kernel_rfl
theorem awk_len : (frameBits zrs).length = 19 := by kernel_rfl
theorem awk_write : fWriteF [] zrs = (0, frameBits zrs) := by
  unfold fWriteF
  rw [if_pos awk_ok]
  unfold wput putE putL
  rw [if_neg (by rw [awk_len]; decide), if_neg (by rw [awk_len]; decide), List.nil_append]
theorem awk_read : ((fReadF (frameBits zrs) 0 1 128).1, (fReadF (frameBits zrs) 0 1 128).2.1) = (zrs, 0) := by kernel_rfl
end Go.Proofs.YtjcijaojcgampaaGreatDoor.P
end
section
namespace Go.Proofs.YtjcijaojcgampaaGreatDoor.P
open Go.RowKit Go.Shelf Go.Proofs.YtjcijaojcgampaaGreatDoor.Bits Go.Proofs.YtjcijaojcgampaaGreatDoorW.PrintWords Go.Proofs.YtjcijaojcgampaaGreatDoorW.PrintLast Go.Proofs.YtjcijaojcgampaaGreatDoorW.PrintMore
attribute [local go_sem ↓] Go.wp_at_zero Go.wp_at_succ
theorem one_C {W : World} {g : Nat} {A1 : Option Addr} {c1 : Nat} {x : List Int} {t : TypeId} {fr : Nat × Nat} (hg : W.heap[g]? = some (.cells #[.slice A1 x.length c1] t fr))
    (h1 : Kd.C (Kd.int .i64) W A1 x.length x) (hc1 : x.length ≤ c1) : Kd.C KdL W (some ⟨g, 0, none⟩) 1 [x] := by
  refine ⟨rfl, by decide, fun _ => ⟨_, rfl, fun j p hj => ?_⟩⟩
  have z0 : W.cell? ⟨g, 0, none⟩ = some (.slice A1 x.length c1) := by rw [cell_of_row W g 0 _ _ _ hg]; rfl
  have hj2 : j < 1 := (List.getElem?_eq_some_iff.1 hj).1
  obtain rfl : j = 0 := by omega
  obtain rfl := Option.some.inj hj
  refine ⟨[.slice A1 x.length c1], rfl, ⟨A1, c1, rfl, hc1, h1⟩, fun i u hu => ?_⟩
  have hi : i < 1 := (List.getElem?_eq_some_iff.1 hu).1
  obtain rfl : i = 0 := by omega
  obtain rfl := Option.some.inj hu
  exact z0
abbrev exsW (W : World) : World := ((W.alloc (.cells #[.int .i64 1, .int .i64 2, .int .i64 3] 3)).alloc (.cells #[.int .i64 1, .int .i64 2, .int .i64 4] 3)).alloc (.cells #[.slice (some ⟨W.heap.size, 0, none⟩) 3 3, .slice (some ⟨W.heap.size + 1, 0, none⟩) 3 3] 22)
theorem exs_C (W : World) : Kd.C KdL (exsW W) (some ⟨W.heap.size + 1 + 1, 0, none⟩) 2 exs := by
  have h1 := lit_C64 W [1, 2, 3] (by simp)
  have h2 := lit_C64 (W.alloc (.cells #[.int .i64 1, .int .i64 2, .int .i64 3] 3)) [1, 2, 4] (by simp)
  rw [show (W.alloc (.cells #[.int .i64 1, .int .i64 2, .int .i64 3] 3)).heap.size = W.heap.size + 1 by simp] at h2
  refine two_C (x := [1, 2, 3]) (y := [1, 2, 4]) (A1 := some ⟨W.heap.size, 0, none⟩) (A2 := some ⟨W.heap.size + 1, 0, none⟩) (c1 := 3) (c2 := 3) (t := 22) (fr := (0, 0)) ?_ ?_ (by simp) ?_ (by simp)
  · have := World.alloc_heap_new ((W.alloc (.cells #[.int .i64 1, .int .i64 2, .int .i64 3] 3)).alloc (.cells #[.int .i64 1, .int .i64 2, .int .i64 4] 3)) (.cells #[.slice (some ⟨W.heap.size, 0, none⟩) 3 3, .slice (some ⟨W.heap.size + 1, 0, none⟩) 3 3] 22)
    simpa using this
  · exact Kd.C_alloc (Kd.C_alloc h1 _) _
  · exact Kd.C_alloc h2 _
theorem exs_B (W : World) : Below W.heap.size W (exsW W) := below_alloc (below_alloc (below_alloc (Below.refl _ _) _) _) _
theorem awk_b8 : (fBytes exs).1.all (fun b => decide (0 ≤ b) && decide (b < 256)) = true := by kernel_rfl
theorem awk_bl : (fBytes exs).1.length ≤ 1000 := Nat.le_of_ble_eq_true (by kernel_rfl)
theorem same_exs : shawmref20_Same.f 300 exs exs = some true := by kernel_rfl
theorem same_zrs : shawmref20_Same.f 300 zrs zrs = some true := by kernel_rfl
theorem same_ls (A : Option Addr) (c : Nat) (A2 : Option Addr) (c2 : Nat) (ls : List (List Int)) (n : Nat) (w : World) (hn : ls.length = n) (h : Kd.C KdL w A n ls) (hc : n ≤ c) (h2 : Kd.C KdL w A2 n ls) (hc2 : n ≤ c2) (hs : shawmref20_Same.f 300 ls ls = some true) :
    Calls Tryz.prog 23 #[.slice A n c, .slice A2 n c2] w fun e w' => e = .returned (.bool true) ∧ Drawn0 w w' := by
  subst hn
  exact shawmref20_Same.calls 300 A c ls A2 c2 ls true w h hc h2 hc2 hs
theorem awake20_any (w : World) (hg : HO w) : Calls Tryz.prog 12 #[] w fun e w' => e = .returned (.bool true) ∧ Below w.heap.size w w' := by
  obtain ⟨ex, hex⟩ : ∃ ex, ex = exs := ⟨_, rfl⟩
  have EL := Aside0.mk (show ex.length = 2 by rw [hex]; rfl)
  have EC : Aside0 (∀ W : World, Kd.C KdL (exsW W) (some ⟨W.heap.size + 1 + 1, 0, none⟩) 2 ex) := ⟨by rw [hex]; exact exs_C⟩
  have EB := Aside0.mk (show (fBytes ex).2 = 0 by rw [hex]; exact awk_bytes)
  have ES := Aside0.mk (show fSamp (fBytes ex).1 2 3 = (ex, 0) by rw [hex]; exact awk_samp)
  have EB8 := Aside0.mk (show (fBytes ex).1.all (fun b => decide (0 ≤ b) && decide (b < 256)) = true by rw [hex]; exact awk_b8)
  have EBL := Aside0.mk (show (fBytes ex).1.length ≤ 1000 by rw [hex]; exact awk_bl)
  have ESA := Aside0.mk (show shawmref20_Same.f 300 ex ex = some true by rw [hex]; exact same_exs)
  obtain ⟨zr, hzr⟩ : ∃ zr, zr = zrs := ⟨_, rfl⟩
  have ZL := Aside0.mk (show zr.length = 1 by rw [hzr]; rfl)
  have ZS := Aside0.mk (show fSize zr = (19, 0) by rw [hzr]; exact awk_size)
  have ZN := Aside0.mk (show (frameBits zr).length = 19 by rw [hzr]; exact awk_len)
  have ZW := Aside0.mk (show fWriteF [] zr = (0, frameBits zr) by rw [hzr]; exact awk_write)
  have ZR := Aside0.mk (show ((fReadF (frameBits zr) 0 1 128).1, (fReadF (frameBits zr) 0 1 128).2.1) = (zr, 0) by rw [hzr]; exact awk_read)
  have ZSA := Aside0.mk (show shawmref20_Same.f 300 zr zr = some true by rw [hzr]; exact same_zrs)
  have hmk := print_make_of (P := Tryz.prog) 22 3 (.int .i64 0) 8 Tryz.underlying22 Lin.hinfo3 rfl (by decide) 128 (by omega)
  rw [show ((128 : Nat) : Int) = 128 from rfl] at hmk
  obtain ⟨w1, hw1⟩ : ∃ w1, w1 = (w.alloc (.cells (madeCells #[.int .i64 0] 128) 3)).alloc (.cells #[.slice (some ⟨w.heap.size, 0, none⟩) 128 128] 22) := ⟨_, rfl⟩
  obtain ⟨b1, hb1⟩ : ∃ b, b = w.heap.size + 1 := ⟨_, rfl⟩
  have hB1 : Below w.heap.size w w1 := by rw [hw1]; exact below_alloc (below_alloc (Below.refl _ _) _) _
  have hC1 : Kd.C KdL w1 (some ⟨b1, 0, none⟩) 1 zr := by
    rw [hzr]
    have hR := Lin.made_R w w.heap.size 128 (Nat.le_refl _) (by omega)
    have hF := Kd.R_F hR
    refine one_C (x := List.replicate 128 0) (c1 := 128) (A1 := some ⟨w.heap.size, 0, none⟩) (t := 22) (fr := (0, 0)) ?_ ?_ ?_
    · rw [hw1, hb1]
      have := World.alloc_heap_new (w.alloc (.cells (madeCells #[.int .i64 0] 128) 3)) (.cells #[.slice (some ⟨w.heap.size, 0, none⟩) 128 128] 22)
      simpa using this
    · rw [hw1]
      exact Kd.C_alloc (Kd.F_now hF) _
    · simp
  clear hex hzr
  have HZ := Aside0.mk (Kd.C_F (Kd.heap_slice _ (Kd.heap_int .i64)) hC1)
  have HB1 := Aside0.mk hB1
  have HG := Aside0.mk hg
  have HE1 := Aside0.mk hw1.symm
  have HBB := Aside0.mk hb1.symm
  have HS1 := Size_any (some ⟨b1, 0, none⟩) 1 zr w1 (hg.below hB1) (by rw [ZL.out]; exact hC1) (by rw [ZL.out]; decide)
  rw [ZS.out, ZL.out] at HS1
  have HSZ := Aside0.mk HS1
  clear hg hw1 hb1 hB1 hC1 HS1
  go_enter Tryz.func12, Tryz.ntmps12
  go_wp2_with (rw [HE1.out, HBB.out])
  refine HSZ.out.mono ?_
  rintro e w2 ⟨rfl, hb⟩
  have HB2 := Aside0.mk (HB1.out.trans (hb.mono HB1.out.size))
  have HS2 := Aside0.mk (show w1.heap.size ≤ w2.heap.size from hb.size)
  have HZ2 := Aside0.mk (Kd.F_below HZ.out hb)
  clear hb hmk
  have hp := Plan_any (some ⟨w2.heap.size, 0, none⟩) 1 [7] (w2.alloc (.cells (nums .i64 [7]).toArray 3)) (HG.out.below (HB2.out.trans ((below_alloc (Below.refl _ _) _).mono HB2.out.size))) (lit_C64 w2 [7] (by simp)) (by simp)
  rw [awk_plan] at hp
  have HP := Aside0.mk hp
  clear hp
  go_wp2_with fail
  refine HP.out.mono ?_
  rintro e w3 ⟨rfl, hb⟩
  have hb23 : Below w2.heap.size w2 w3 := (below_alloc (Below.refl _ _) _).trans (hb.mono (by simp))
  have HB3 := Aside0.mk (HB2.out.trans (hb23.mono HB2.out.size))
  have HZ3 := Aside0.mk (Kd.F_below HZ2.out hb23)
  have HS3 := Aside0.mk (Nat.le_trans HS2.out hb23.size)
  clear hb hb23
  have hp := Cost_any (some ⟨w3.heap.size, 0, none⟩) 1 [7] 1 0 (w3.alloc (.cells (nums .i64 [7]).toArray 3)) (HG.out.below (HB3.out.trans ((below_alloc (Below.refl _ _) _).mono HB3.out.size))) (lit_C64 w3 [7] (by simp)) (by simp)
  rw [awk_cost] at hp
  have HP2 := Aside0.mk hp
  clear hp
  go_wp2_with fail
  refine HP2.out.mono ?_
  rintro e w4 ⟨rfl, hb⟩
  have hb34 : Below w3.heap.size w3 w4 := (below_alloc (Below.refl _ _) _).trans (hb.mono (by simp))
  have HB4 := Aside0.mk (HB3.out.trans (hb34.mono HB3.out.size))
  have HZ4 := Aside0.mk (Kd.F_below HZ3.out hb34)
  have HS4 := Aside0.mk (Nat.le_trans HS3.out hb34.size)
  clear hb hb34
  have hp := BytesF_any (some ⟨w4.heap.size + 1 + 1, 0, none⟩) 2 ex (exsW w4) (HG.out.below (HB4.out.trans ((exs_B w4).mono HB4.out.size))) (by rw [EL.out]; exact EC.out w4) (by rw [EL.out]; decide)
  rw [EB.out, EL.out] at hp
  have HP3 := Aside0.mk hp
  clear hp
  have hsamp := ES.out
  have h8 : is8 (fBytes ex).1 := fun b hb => by
    have := List.all_eq_true.1 EB8.out b hb
    simp only [Bool.and_eq_true, decide_eq_true_eq] at this
    omega
  have hbl := EBL.out
  clear EB8 EBL ES EB
  generalize (fBytes ex).1 = bs at *
  have HSAMP := Aside0.mk hsamp
  have H8 := Aside0.mk h8
  clear hsamp h8
  go_wp2_with fail
  refine HP3.out.mono ?_
  rintro e w5 ⟨v5, S5, rfl, hr5, hs5, hb⟩
  have hb45 : Below w4.heap.size w4 w5 := (exs_B w4).trans (hb.mono (exs_B w4).size)
  have HB5 := Aside0.mk (HB4.out.trans (hb45.mono HB4.out.size))
  have HZ5 := Aside0.mk (Kd.F_below HZ4.out hb45)
  obtain ⟨A5, c5, rfl, hc5, hC5⟩ := Kd.R_reads hr5
  have hsm := Samples_any A5 c5 bs 2 3 w5 hC5 H8.out (by omega) hc5
  unfold LsPost at hsm
  rw [HSAMP.out] at hsm
  dsimp only at hsm
  rw [EL.out] at hsm
  have HSM := Aside0.mk hsm
  have HS5 := Aside0.mk (Nat.le_trans HS4.out hb45.size)
  clear hb hb45 hr5 hs5 hc5 hC5 hsm
  go_wp2_with fail
  refine HSM.out.mono ?_
  rintro e w6 ⟨A6, c6, rfl, hc6, hF6, hb⟩
  have HB6 := Aside0.mk (HB5.out.trans (hb.mono HB5.out.size))
  have HZ6 := Aside0.mk (Kd.F_below HZ5.out hb)
  have HX6 := Aside0.mk (Kd.F_bound hF6)
  have HS6 := Aside0.mk (Nat.le_trans HS5.out hb.size)
  have HC6 := Aside0.mk hc6
  clear hb hF6 hc6
  go_wp2_with fail
  refine (New_any w6).mono ?_
  rintro e w7 ⟨rfl, hw⟩
  have hW7 : Wr w7 (fun _ => False) w6.heap.size [] := by rw [hw]; exact Wr.new w6
  have hb67 : Below w6.heap.size w6 w7 := by rw [hw]; exact below_alloc (Below.refl _ _) _
  have HS67 := Aside0.mk hb67.size
  have HS67' : Aside0 (w7.heap.size = w6.heap.size + 1) := ⟨by rw [hw]; simp⟩
  obtain ⟨p, hp⟩ : ∃ p, p = w6.heap.size := ⟨_, rfl⟩
  rw [← hp] at hW7 ⊢
  have HPP := Aside0.mk hp
  have HB7 := Aside0.mk (HB6.out.trans (hb67.mono HB6.out.size))
  have HZ7 := Aside0.mk (Kd.F_below HZ6.out hb67)
  have HX7 := Aside0.mk (Kd.F_below HX6.out hb67)
  have hwr := WriteF_any (fun _ => False) p [] (some ⟨b1, 0, none⟩) 1 zr w7 hW7 (by simp) (HG.out.below HB7.out) (by rw [ZL.out]; exact Kd.F_now HZ7.out) (by rw [ZL.out]; decide)
  rw [ZW.out, ZL.out] at hwr
  have hfl := ZN.out
  have hfr := ZR.out
  clear ZN ZR ZW
  generalize frameBits zr = fb at *
  have HFL := Aside0.mk hfl
  have HFR := Aside0.mk hfr
  have HWR := Aside0.mk hwr
  clear hfl hfr
  clear hw hW7 hb67 hp hwr
  go_wp2_with fail
  refine HWR.out.mono ?_
  rintro e w8 ⟨rfl, S8, hW8, hs8, hf8⟩
  have hb78 : Below w7.heap.size w7 w7 := Below.refl _ _
  have hfw : Fr (fun k => k = p) w7 w8 := hf8.mono (fun k _ h => by rcases h with h | h; exact h; exact h.elim)
  have hpw6 : w6.heap.size ≤ p := by rw [HPP.out]; exact Nat.le_refl _
  have HB8 := Aside0.mk (HB7.out.trans (hfw.to_below HB7.out.size (fun k hk => by rw [hk]; exact Nat.le_trans HB6.out.size hpw6)))
  have HZ8 : Aside0 (Kd.F KdL w8 (fun k => k < w1.heap.size) (some ⟨b1, 0, none⟩) 1 zr) := ⟨Kd.F_step HZ7.out (fun k hk hlt => hfw.block k hlt (fun e => by have h1 : k < w1.heap.size := hk; have := HS6.out; omega))⟩
  have HX8 := Aside0.mk (Kd.F_step HX7.out (fun k hk hlt => hfw.block k hlt (fun e => by have h1 : k < w6.heap.size := hk.2; omega)))
  have HS8 := Aside0.mk (show w6.heap.size ≤ w7.heap.size ∧ w7.heap.size ≤ w8.heap.size ∧ w7.heap.size = w6.heap.size + 1 from ⟨HS67.out, hfw.size, HS67'.out⟩)
  have HW8 := Aside0.mk hW8
  clear hW8 hs8 hf8 hb78 hfw hpw6
  go_wp2_with fail
  refine (Bytes_any S8 p _ w8 HW8.out (by rw [HFL.out]; decide)).mono ?_
  rintro e w9 ⟨v9, S9, rfl, hr9, hs9, hb⟩
  have HB9 := Aside0.mk (HB8.out.trans (hb.mono HB8.out.size))
  have HZ9 := Aside0.mk (Kd.F_below HZ8.out hb)
  have HX9 := Aside0.mk (Kd.F_below HX8.out hb)
  have HW9 := Aside0.mk (HW8.out.below hb)
  obtain ⟨A9, c9, rfl, hc9, hC9⟩ := Kd.R_reads hr9
  have h8 := pk_is8 HW8.out.bits
  have hll : (pk (fb)).length = 3 := by rw [pk_length, HFL.out]
  have hop := Open_any A9 c9 (pk (fb)) 19 w9 hC9 h8 (by omega) hc9
  have hoe : openE (pk (fb)) 19 = 0 := by unfold openE; rw [hll]; decide
  have hob : ofB (pk (fb)) 19 = fb := by have := ofB_pk_all HW8.out.bits; rw [HFL.out] at this; exact this
  have hop2 : Calls Tryz.prog 18 #[.slice A9 (pk (fb)).length c9, .int .i64 19] w9 fun e w' => ∃ p S, e = .returned (.tuple #[.pointer (some ⟨p, 0, none⟩), .int .i64 0]) ∧ Rd w' S p (fb) 0 ∧ w9.heap.size ≤ p ∧ (∀ k, S k → w9.heap.size ≤ k) ∧ Below w9.heap.size w9 w' := by
    refine hop.mono (fun e w' h => ?_)
    unfold OpenPost at h
    rw [if_pos hoe, show (19 : Int).toNat = 19 from rfl, hob] at h
    exact h
  rw [hll] at hop2
  have HOP := Aside0.mk hop2
  rw [hll]
  have hln := Len_any S8 p _ w9 HW9.out
  rw [HFL.out] at hln
  have HLN := Aside0.mk hln
  clear hb hr9 hs9 hc9 hC9 h8 hop hoe hob hop2 hln hll
  go_wp2_with fail
  refine HLN.out.mono ?_
  rintro e w10 ⟨rfl, hw⟩
  obtain rfl := hw.symm
  rw [show ((19 : Nat) : Int) = 19 from rfl]
  go_wp2_with fail
  refine HOP.out.mono ?_
  rintro e w10 ⟨p2, S2, rfl, hR, hp2, hS2, hb⟩
  have HB10 := Aside0.mk (HB9.out.trans (hb.mono HB9.out.size))
  have HZ10 := Aside0.mk (Kd.F_below (Kd.F_bound HZ9.out) hb)
  have HX10 := Aside0.mk (Kd.F_below (Kd.F_bound HX9.out) hb)
  have HPP2 := Aside0.mk hp2
  have hrd := ReadF_any S2 p2 0 1 128 (fb) w10 hR
  unfold FReadPost at hrd
  have hrv := HFR.out
  generalize fReadF (fb) 0 1 128 = rr at *
  obtain ⟨ls, er, br⟩ := rr
  cases hrv
  dsimp only at hrd
  rw [ZL.out] at hrd
  have HRD := Aside0.mk hrd
  clear hR hp2 hS2 hb hrd
  go_wp2_with fail
  refine HRD.out.mono ?_
  rintro e w11 ⟨A11, c11, rfl, hc11, hF11, hr, hf⟩
  have HB11 := Aside0.mk (HB10.out.trans (hf.to_below HB10.out.size (fun k hk => by rw [hk]; exact Nat.le_trans HB9.out.size HPP2.out)))
  have HZ11 := Aside0.mk (Kd.F_step HZ10.out (fun k hk hlt => hf.block k hlt (fun e => by have := HPP2.out; have h1 := hk.2; omega)))
  have HX11 := Aside0.mk (Kd.F_step HX10.out (fun k hk hlt => hf.block k hlt (fun e => by have := HPP2.out; have h1 := hk.2; omega)))
  have HY11 := Aside0.mk hF11
  have HC11 := Aside0.mk hc11
  have hsm := same_ls A6 c6 (some ⟨w11.heap.size + 1 + 1, 0, none⟩) 2 ex 2 (exsW w11) EL.out (Kd.C_below (Kd.F_now HX11.out) (exs_B w11)) HC6.out (EC.out w11) (Nat.le_refl _) ESA.out
  have HSM2 := Aside0.mk hsm
  clear hc11 hF11 hr hf hsm
  go_wp2_with fail
  refine HSM2.out.mono ?_
  rintro e w12 ⟨rfl, hd⟩
  have hb12 : Below w11.heap.size w11 w12 := (exs_B w11).trans (hd.below.mono (exs_B w11).size)
  have HB12 := Aside0.mk (HB11.out.trans (hb12.mono HB11.out.size))
  have hsm := same_ls A11 c11 (some ⟨b1, 0, none⟩) 1 ls 1 w12 ZL.out (Kd.F_now (Kd.F_below HY11.out hb12)) HC11.out (Kd.F_now (Kd.F_below HZ11.out hb12)) (Nat.le_refl _) ZSA.out
  have HSM3 := Aside0.mk hsm
  clear hd hb12 hsm
  go_wp2_with fail
  refine HSM3.out.mono ?_
  rintro e w13 ⟨rfl, hd⟩
  have HB13 := Aside0.mk (HB12.out.trans (hd.below.mono HB12.out.size))
  clear hd
  go_wp2_with fail
  go_ret
  exact ⟨rfl, HB13.out⟩
end Go.Proofs.YtjcijaojcgampaaGreatDoor.P
end
