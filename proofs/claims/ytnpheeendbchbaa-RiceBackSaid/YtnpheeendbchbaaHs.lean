/- Lists that are read (plain law); the contracts of the reference's read and Read. -/
import Derived.Test.YtnpheeendbchbaaHp
import Derived.Test.YtnpheeendbchbaaHl
namespace Go.Proofs.Ytnpheeendbchbaa.P
open Go.RowKit Go.Shelf Go.Proofs.Ytnpheeendbchbaa.Bits Go.Proofs.YtnpheeendbchbaaW.PrintWords Go.Proofs.YtnpheeendbchbaaW.PrintLast Go.Proofs.YtnpheeendbchbaaW.PrintMore
set_option linter.unusedVariables false
set_option linter.unusedSimpArgs false
attribute [local go_sem ↓] Go.wp_at_zero Go.wp_at_succ

/-- n words from a on: the error, the list so far, the position. -/
def rWords (L : List Int) (k : Nat) : Nat → Nat → List Int → Int × List Int × Nat
  | 0, a, acc => (0, acc, a)
  | n + 1, a, acc => if (rRice L a k).2.1 ≠ 0 then ((rRice L a k).2.1, acc, a) else rWords L k n (rRice L a k).2.2 (acc ++ [(rRice L a k).1])
/-- m parts of N words. -/
def rParts (L : List Int) (N : Nat) : Nat → Nat → List Int → Int × List Int × Nat
  | 0, a, acc => (0, acc, a)
  | m + 1, a, acc => if (rGet L a 4).2.1 ≠ 0 then ((rGet L a 4).2.1, acc, a) else if 14 < (rGet L a 4).1 then (4, acc, a)
    else if (rWords L (rGet L a 4).1.toNat N (rGet L a 4).2.2 acc).1 ≠ 0 then rWords L (rGet L a 4).1.toNat N (rGet L a 4).2.2 acc
    else rParts L N m (rWords L (rGet L a 4).1.toNat N (rGet L a 4).2.2 acc).2.2 (rWords L (rGet L a 4).1.toNat N (rGet L a 4).2.2 acc).2.1
def partDone (L : List Int) (N m : Nat) (r : Int × List Int × Nat) : Int × List Int × Nat := if r.1 ≠ 0 then r else rParts L N m r.2.2 r.2.1
def rList (L : List Int) (a count : Nat) : Int × List Int × Nat :=
  if (rGet L a 2).2.1 ≠ 0 then ((rGet L a 2).2.1, [], a) else if divB count (rGet L a 2).1.toNat then rParts L (count / 2 ^ (rGet L a 2).1.toNat) (2 ^ (rGet L a 2).1.toNat) (rGet L a 2).2.2 [] else (4, [], a)
def fRead (L : List Int) (a : Nat) (count : Int) : List Int × Int × Nat :=
  if count < 0 ∨ 8192 < count then ([], 1, a) else if (rList L a count.toNat).1 ≠ 0 then ([], (rList L a count.toNat).1, a) else ((rList L a count.toNat).2.1, 0, (rList L a count.toNat).2.2)
theorem shr_p {p : Nat} (c : Nat) : (c : Int) / 2 ^ p = ((c / 2 ^ p : Nat) : Int) := by push_cast; rfl
theorem one_shl {p : Nat} (hp : p ≤ 3) : wrap64 (2 ^ p) = ((2 ^ p : Nat) : Int) := by
  have h : (2 : Int) ^ p = ((2 ^ p : Nat) : Int) := by push_cast; rfl
  have := pow_le8 hp
  rw [h]; exact wrap64_id (by omega) (by omega)
theorem rGet2 {L : List Int} {a : Nat} (h01 : is01 L) (h : (rGet L a 2).2.1 = 0) : ∃ p : Nat, p ≤ 3 ∧ (rGet L a 2).1 = p := by
  have := rGet_ok (n := 2) h01 h
  simp only [Int.reducePow] at this
  exact ⟨(rGet L a 2).1.toNat, by have h1 : (rGet L a ((2 : Nat) : Int)).1 = (rGet L a 2).1 := rfl; omega, by have h1 : (rGet L a ((2 : Nat) : Int)).1 = (rGet L a 2).1 := rfl; omega⟩
theorem rGet4 {L : List Int} {a : Nat} (h01 : is01 L) (h : (rGet L a 4).2.1 = 0) : ∃ k : Nat, k ≤ 15 ∧ (rGet L a 4).1 = k := by
  have := rGet_ok (n := 4) h01 h
  simp only [Int.reducePow] at this
  exact ⟨(rGet L a 4).1.toNat, by have h1 : (rGet L a ((4 : Nat) : Int)).1 = (rGet L a 4).1 := rfl; omega, by have h1 : (rGet L a ((4 : Nat) : Int)).1 = (rGet L a 4).1 := rfl; omega⟩
theorem fGet_nat (L : List Int) (a : Nat) {k : Nat} (hk : k ≤ 14) : fGet L a (k : Int) = rRice L a k := by unfold fGet; rw [if_neg (by omega), Int.toNat_natCast]

/-- What read leaves; with an error the position is somewhere. -/
def RListPost (w : World) (S : Nat → Prop) (p : Nat) (L : List Int) (R : Int × List Int × Nat) (e : Ending) (w' : World) : Prop :=
  ∃ v a', e = .returned (.tuple #[v, .int .i64 R.1]) ∧ (R.1 = 0 → RowV w' w.heap.size 3 1 v R.2.1.length (flatI R.2.1) ∧ a' = R.2.2) ∧ RRd w' S p L a' ∧ Fr (fun k => k = p) w w'
theorem RRd.notint {w : World} {S : Nat → Prop} {p a : Nat} {L : List Int} (h : RRd w S p L a) : ∀ k cs, k = p → k < w.heap.size → w.heap[k]? ≠ some (.cells cs 3 (0, 0)) := by
  rintro k cs rfl _ he
  obtain ⟨v, hb, _⟩ := h.blk
  rw [hb] at he
  cases he

theorem RowV.mono {w : World} {base base' : Nat} {e : TypeId} {sz : Nat} {v : Value} {n : Nat} {fl : List Value} (h : RowV w base e sz v n fl) (hb : base' ≤ base) : RowV w base' e sz v n fl := by
  refine ⟨h.1, ?_⟩
  rcases h.2 with hn | ⟨g, cap, cur, rfl, hb', rest⟩
  · exact .inl hn
  · exact .inr ⟨g, cap, cur, rfl, Nat.le_trans hb hb', rest⟩
/-- One more number in a row of one's own: the row's frame. -/
theorem row_more {W0 w w5 : World} {T : Nat → Prop} {v : Value} {l : List Int} {o : Obj} (hf : Fr T W0 w) (hv : RowV w W0.heap.size 3 1 v l.length (flatI l)) (hg : (w.alloc o).grownBy w5 v.ownBlock) :
    Fr T W0 w5 ∧ Fr (fun k => v.ownBlock = some k) w w5 :=
  ⟨(hf.alloc o).grown hg (fun k hk e => by have := (hv.block k e).2; omega), ((Fr.refl _ _).alloc o).grown hg (fun k _ e => e)⟩
theorem RRd.row {w w5 : World} {S : Nat → Prop} {p a base : Nat} {L l : List Int} {v : Value} (h : RRd w S p L a) (hv : RowV w base 3 1 v l.length (flatI l)) (hf : Fr (fun k => v.ownBlock = some k) w w5) : RRd w5 S p L a := by
  refine h.fr hf (fun e => ?_) (fun k hk e => ?_)
  · obtain ⟨⟨cs, hc⟩, _⟩ := hv.block p e
    obtain ⟨u, hb, _⟩ := h.blk
    rw [hc] at hb
    cases hb
  · obtain ⟨⟨cs, hc⟩, _⟩ := hv.block k e
    obtain ⟨cs', hb⟩ := h.typed k hk
    rw [hc] at hb
    cases hb

set_option maxHeartbeats 8000000 in
set_option maxRecDepth 100000 in
theorem Rread_any5 (S : Nat → Prop) (q a count : Nat) (L : List Int) (w : World) (hR : RRd w S q L a) (hcl : count ≤ 8192) :
    Calls Try.prog 79 #[.pointer (some ⟨q, 0, none⟩), .int .i64 (count : Int)] w (RListPost w S q L (rList L a count)) := by
  have h01 := hR.bits
  have HRL : Aside0 (rList L a count = _) := ⟨rList.eq_1 L a count⟩
  have HG := Aside0.mk (RefGet_any S q a L 2 w hR)
  have HGS := Aside0.mk (fun b W (h : RRd W S q L b) => RefGet_any S q b L 4 W h)
  have HRG := Aside0.mk (fun b k W (h : RRd W S q L b) => RGet_any5 S q b L k W h h01)
  have hg2 := @rGet2 L a h01
  have HG4 := Aside0.mk (fun b => @rGet4 L b h01)
  have HQ := Aside0.mk hR.p_lt
  unfold RRdPost at HG HGS HRG
  generalize rList L a count = R at *
  generalize rGet L a 2 = g at *
  obtain ⟨x, e1, b⟩ := g
  dsimp only at HRL HG hg2
  clear hR
  by_cases he1 : e1 = 0
  case neg =>
    rw [if_pos he1] at HRL
    have q1 : (e1 != 0) = true := by simpa using he1
    have HE1 := Aside0.mk he1
    clear hg2 he1
    go_enter Try.func79, Try.ntmps79
    go_wp2_with fail
    refine HG.out.mono ?_
    rintro e w1 ⟨rfl, hr, hf⟩
    have HR1 := Aside0.mk hr
    have HF1 := Aside0.mk hf
    clear hr hf
    go_wp2_with fail
    go_ret2
    unfold RListPost
    rw [HRL.out]
    exact ⟨_, b, rfl, fun h => absurd h HE1.out, HR1.out, HF1.out⟩
  subst he1
  rw [if_neg (by simp)] at HRL
  obtain ⟨p, hp, rfl⟩ := hg2 rfl
  clear hg2
  have HD := Aside0.mk (fun W => shawmref05_divided.calls (count : Int) (p : Int) _ W (ref_divided count p hp))
  rw [Int.toNat_natCast] at HRL
  by_cases hdv : divB count p = true
  case neg =>
    have hdv' : divB count p = false := by simpa using hdv
    rw [if_neg hdv] at HRL
    rw [hdv'] at HD
    clear hdv hdv'
    go_enter Try.func79, Try.ntmps79
    go_wp2_with fail
    refine HG.out.mono ?_
    rintro e w1 ⟨rfl, hr, hf⟩
    have HR1 := Aside0.mk hr
    have HF1 := Aside0.mk hf
    clear hr hf
    go_wp2_with fail
    refine (HD.out _).mono ?_
    rintro e w2 ⟨rfl, hd⟩
    have HB2 := Aside0.mk hd.below
    clear hd
    go_wp2_with fail
    go_ret2
    unfold RListPost
    rw [HRL.out]
    exact ⟨_, b, rfl, fun h => absurd h (by simp), HR1.out.below HB2.out, HF1.out.trans (Fr.below HB2.out _)⟩
  rw [if_pos hdv] at HRL
  rw [hdv] at HD
  have s1 := @shr_p p count
  have s2 := one_shl hp
  have hN : count / 2 ^ p ≤ 8192 := Nat.le_trans (Nat.div_le_self _ _) hcl
  have hM := pow_le8 hp
  generalize count / 2 ^ p = N at *
  obtain ⟨M, hMM⟩ : ∃ M, M = 2 ^ p := ⟨_, rfl⟩
  rw [← hMM] at HRL hM s2
  have S1 := Aside0.mk s1
  have S2 := Aside0.mk s2
  clear hMM hdv
  go_enter Try.func79, Try.ntmps79
  go_wp2_with fail
  refine HG.out.mono ?_
  rintro e w1 ⟨rfl, hr, hf⟩
  have HR1 := Aside0.mk hr
  have HF1 := Aside0.mk hf
  clear hr hf
  go_wp2_with fail
  refine (HD.out _).mono ?_
  rintro e w2 ⟨rfl, hd⟩
  have HB2 := Aside0.mk hd.below
  clear hd
  go_wp2_with fail
  rw [S2.out]
  obtain ⟨W0, hW0⟩ : ∃ W0 : World, W0 = w2 := ⟨_, rfl⟩
  have HR2 := Aside0.mk (HR1.out.below HB2.out)
  have HF2 := Aside0.mk (HF1.out.trans (Fr.below HB2.out (fun k => k = q)))
  rw [← hW0] at HR2 HF2 ⊢
  clear hW0 HR1 HF1 HB2 s1 s2
  go_loopw [8, 27] (fun v u wr => ∃ (i b : Nat) (acc : List Int) (A1 : Option Addr) (c1 : Nat), v = .slice A1 acc.length c1 ∧ u = .int .i64 (i : Int) ∧ i ≤ M ∧ Aside0 (rParts L N (M - i) b acc = R) ∧ Aside0 (acc.length ≤ 8192 * i) ∧ Aside0 (RowV wr W0.heap.size 3 1 v acc.length (flatI acc)) ∧ Aside0 (RRd wr S q L b) ∧ Aside0 (Fr (fun k => k = q) W0 wr)) (fun _ u _ => M - (intOf u).toNat)
  case atStart => exact ⟨0, b, [], none, 0, rfl, rfl, by omega, ⟨HRL.out.symm⟩, ⟨by simp⟩, ⟨World.ownsRow_nil _ _ _ _⟩, HR2, ⟨Fr.refl _ _⟩⟩
  case round =>
    obtain ⟨i, b1, acc, A1, c1, rfl, rfl, hi, HPR, HAL, HRV, HRB, HFB⟩ := hrel
    by_cases hlt : i < M
    · have d1 : decide ((i : Int) < (M : Int)) = true := by simp; omega
      have hg := HGS.out b1 wr HRB.out
      have h4 := HG4.out b1
      have hpr := HPR.out
      rw [show M - i = (M - (i + 1)) + 1 by omega, rParts] at hpr
      generalize rGet L b1 4 = g at *
      obtain ⟨x, e2, b2⟩ := g
      dsimp only at hg h4 hpr
      have HGG := Aside0.mk hg
      have HNI := Aside0.mk HRB.out.notint
      clear hg
      by_cases he2 : e2 = 0
      case neg =>
        rw [if_pos he2] at hpr
        have q1 : (e2 != 0) = true := by simpa using he2
        have HE2 := Aside0.mk he2
        have HPR2 := Aside0.mk hpr
        clear h4 he2 hpr
        go_wp2_with fail
        refine HGG.out.mono ?_
        rintro e w3 ⟨rfl, hr, hf⟩
        have HR3 := Aside0.mk hr
        have HF3 := Aside0.mk ((HF2.out.trans HFB.out).trans hf)
        clear hr hf
        go_wp2_with fail
        go_ret2
        unfold RListPost
        rw [← HPR2.out]
        exact ⟨_, b2, rfl, fun h => absurd h HE2.out, HR3.out, HF3.out⟩
      subst he2
      rw [if_neg (by simp)] at hpr
      obtain ⟨k, hk, rfl⟩ := h4 rfl
      clear h4
      by_cases hk14 : 14 < k
      · rw [if_pos (by omega)] at hpr
        have d2 : decide ((14 : Int) < (k : Int)) = true := by simp; omega
        have HPR2 := Aside0.mk hpr
        clear hpr hk14
        go_wp2_with fail
        refine HGG.out.mono ?_
        rintro e w3 ⟨rfl, hr, hf⟩
        have HR3 := Aside0.mk hr
        have HF3 := Aside0.mk ((HF2.out.trans HFB.out).trans hf)
        clear hr hf
        go_wp2_with fail
        go_ret2
        unfold RListPost
        rw [← HPR2.out]
        exact ⟨_, b2, rfl, fun h => absurd h (by simp), HR3.out, HF3.out⟩
      rw [if_neg (by omega), Int.toNat_natCast] at hpr
      have d2 : decide ((14 : Int) < (k : Int)) = false := by simp; omega
      have hpd : partDone L N (M - (i + 1)) (rWords L k N b2 acc) = R := hpr
      have HPD := Aside0.mk hpd
      have hk14' : k ≤ 14 := by omega
      have HRC := Aside0.mk (fun b W h => HRG.out b (k : Int) W h)
      simp only [fGet_nat L _ hk14'] at HRC
      clear hpr hpd hk14 hk
      go_wp2_with fail
      refine HGG.out.mono ?_
      rintro e w3 ⟨rfl, hr, hf⟩
      have HRV3 := Aside0.mk (HRV.out.fr hf HNI.out)
      have HR3 := Aside0.mk hr
      have HF3 := Aside0.mk (HFB.out.trans hf)
      clear hr hf
      go_wp2_with fail
      rw [S1.out]
      obtain ⟨wo, rfl⟩ : ∃ wo : World, wo = wr := ⟨_, rfl⟩
      go_loopw [8, 42] (fun v u wr => ∃ (j b : Nat) (acc : List Int) (A1 : Option Addr) (c1 : Nat), v = .slice A1 acc.length c1 ∧ u = .int .i64 (j : Int) ∧ j ≤ N ∧ Aside0 (partDone L N (M - (i + 1)) (rWords L k (N - j) b acc) = R) ∧ Aside0 (acc.length ≤ 8192 * i + j) ∧ Aside0 (RowV wr W0.heap.size 3 1 v acc.length (flatI acc)) ∧ Aside0 (RRd wr S q L b) ∧ Aside0 (Fr (fun k => k = q) W0 wr)) (fun _ u _ => N - (intOf u).toNat)
      case atStart => exact ⟨0, b2, acc, A1, c1, rfl, rfl, by omega, HPD, ⟨by have := HAL.out; omega⟩, HRV3, HR3, HF3⟩
      case round =>
        obtain ⟨j, b3, acc3, A3, c3, rfl, rfl, hj, HPJ, HAJ, HRJ, HBJ, HFJ⟩ := hrel
        by_cases hjl : j < N
        · have d3 : decide ((j : Int) < (N : Int)) = true := by simp; omega
          have hg := HRC.out b3 wr HBJ.out
          have hpj := HPJ.out
          rw [show N - j = (N - (j + 1)) + 1 by omega, rWords] at hpj
          generalize rRice L b3 k = g at *
          obtain ⟨x, e3, b4⟩ := g
          dsimp only at hg hpj
          have HNI := Aside0.mk HBJ.out.notint
          have HGG2 := Aside0.mk hg
          clear hg
          by_cases he3 : e3 = 0
          case neg =>
            rw [if_pos he3] at hpj
            unfold partDone at hpj
            rw [if_pos he3] at hpj
            have q1 : (e3 != 0) = true := by simpa using he3
            have HE3 := Aside0.mk he3
            have HPR2 := Aside0.mk hpj
            clear he3 hpj
            go_wp2_with fail
            refine HGG2.out.mono ?_
            rintro e w4 ⟨rfl, hr, hf⟩
            have HR4 := Aside0.mk hr
            have HF4 := Aside0.mk ((HF2.out.trans HFJ.out).trans hf)
            clear hr hf
            go_wp2_with fail
            go_ret2
            unfold RListPost
            rw [← HPR2.out]
            exact ⟨_, b4, rfl, fun h => absurd h HE3.out, HR4.out, HF4.out⟩
          subst he3
          rw [if_neg (by simp)] at hpj
          have HPJ2 := Aside0.mk hpj
          clear hpj
          go_wp2_with fail
          refine HGG2.out.mono ?_
          rintro e w4 ⟨rfl, hr, hf⟩
          have hv4 := HRJ.out.fr hf HNI.out
          have HR4 := Aside0.mk hr
          have HF4 := Aside0.mk (HFJ.out.trans hf)
          obtain ⟨v5, w5, hrun, hr5, hg5⟩ := rowI_append (w4.alloc (.cells #[.int .i64 x] 3 (0, 0))) W0.heap.size (.slice A3 acc3.length c3) acc3 x w4.heap.size (hv4.below (below_alloc (Below.refl _ _) _)) (World.alloc_heap_new w4 _) (by have := HAJ.out; omega) (by have := HF4.out.size; simp; omega)
          obtain ⟨A5, c5, rfl⟩ := hr5.slice
          obtain ⟨hfa, hfb⟩ := row_more HF4.out hv4 hg5
          have HR5 := Aside0.mk (HR4.out.row hv4 hfb)
          have HF5 := Aside0.mk hfa
          have HV5 := Aside0.mk hr5
          have HRUN := Aside0.mk hrun
          clear hr hf hv4 hrun hr5 hg5 hfa hfb
          have hl5 : (acc3 ++ [x]).length = acc3.length + 1 := by simp
          go_wp2_with (at_builtin; refine wpList_run_append rfl _ _ _ rfl _ _ rfl rfl HRUN.out ?_)
          go_roundw
          case rel => exact ⟨j + 1, b4, acc3 ++ [x], A5, c5, by rw [hl5], by go_num, by omega, HPJ2, ⟨by have := HAJ.out; omega⟩, ⟨by rw [← hl5]; exact HV5.out⟩, HR5, HF5⟩
          case measure => simp [intOf]; omega
        · obtain rfl : j = N := by omega
          have d3 : decide ((j : Int) < (j : Int)) = false := by simp
          have hpj := HPJ.out
          rw [Nat.sub_self, rWords] at hpj
          unfold partDone at hpj
          rw [if_neg (by simp)] at hpj
          have HPJ2 := Aside0.mk hpj
          clear hpj
          go_wp2_with fail
          go_roundw
          case rel => exact ⟨i + 1, b3, acc3, A3, c3, rfl, by go_num, by omega, HPJ2, ⟨by have := HAJ.out; omega⟩, HRJ, HBJ, HFJ⟩
          case measure => simp [intOf]; omega
    · obtain rfl : i = M := by omega
      have d1 : decide ((i : Int) < (i : Int)) = false := by simp
      have hpr := HPR.out
      rw [Nat.sub_self, rParts] at hpr
      have HPR2 := Aside0.mk hpr
      clear hpr
      go_wp2_with fail
      go_ret2
      unfold RListPost
      rw [← HPR2.out]
      exact ⟨_, b1, rfl, fun _ => ⟨HRV.out.mono HF2.out.size, rfl⟩, HRB.out, HF2.out.trans HFB.out⟩

set_option maxHeartbeats 4000000 in
set_option maxRecDepth 100000 in
theorem RRead_any5 (S : Nat → Prop) (q a : Nat) (count : Int) (L : List Int) (w : World) (hR : RRd w S q L a) :
    Calls Try.prog 45 #[.pointer (some ⟨q, 0, none⟩), .int .i64 count] w fun e w' =>
      ∃ v, e = .returned (.tuple #[v, .int .i64 (fRead L a count).2.1]) ∧ RowV w' w.heap.size 3 1 v (fRead L a count).1.length (flatI (fRead L a count).1) ∧ RRd w' S q L (fRead L a count).2.2 ∧ Fr (fun k => k = q) w w' := by
  have hal := hR.at_le
  have HR := Aside0.mk hR
  have HFR : Aside0 (fRead L a count = if count < 0 ∨ 8192 < count then ([], 1, a) else if (rList L a count.toNat).1 ≠ 0 then ([], (rList L a count.toNat).1, a) else ((rList L a count.toNat).2.1, 0, (rList L a count.toNat).2.2)) := ⟨rfl⟩
  generalize fRead L a count = fr at *
  by_cases h1 : count < 0
  · rw [if_pos (.inl h1)] at HFR
    have d1 : decide (count < 0) = true := by simpa using h1
    clear hR h1
    go_enter Try.func45, Try.ntmps45
    go_wp2_with fail
    go_ret2
    rw [HFR.out]
    exact ⟨_, rfl, World.ownsRow_nil _ _ _ _, HR.out, Fr.refl _ _⟩
  have d1 : decide (count < 0) = false := by simpa using h1
  by_cases h2 : 8192 < count
  · rw [if_pos (.inr h2)] at HFR
    have d2 : decide (8192 < count) = true := by simpa using h2
    clear hR h1 h2
    go_enter Try.func45, Try.ntmps45
    go_wp2_with fail
    go_ret2
    rw [HFR.out]
    exact ⟨_, rfl, World.ownsRow_nil _ _ _ _, HR.out, Fr.refl _ _⟩
  have d2 : decide (8192 < count) = false := by simpa using h2
  rw [if_neg (by omega)] at HFR
  obtain ⟨m, rfl⟩ : ∃ m : Nat, count = m := ⟨count.toNat, by omega⟩
  rw [Int.toNat_natCast] at HFR
  have HAT := Aside0.mk (RefAt_any S q a L w hR)
  have HRD := Aside0.mk (Rread_any5 S q a m L w hR (by omega))
  have HSK := Aside0.mk (fun b W (h : RRd W S q L b) => RefSeek_any S q b L (a : Int) W h)
  have hsk : ∀ b, rSeek L b (a : Int) = (0, a) := fun b => by unfold rSeek; rw [if_neg (by omega), Int.toNat_natCast]
  simp only [hsk] at HSK
  unfold RListPost at HRD
  generalize rList L a m = R at *
  obtain ⟨er, l, b⟩ := R
  dsimp only at HRD HFR
  clear hR hsk h1 h2
  by_cases he : er = 0
  · subst he
    rw [if_neg (by simp)] at HFR
    go_enter Try.func45, Try.ntmps45
    go_wp2_with fail
    refine HAT.out.mono ?_
    rintro e w1 ⟨rfl, hw⟩
    obtain rfl := hw.symm
    go_wp2_with fail
    refine HRD.out.mono ?_
    rintro e w2 ⟨v, a', rfl, hv, hr, hf⟩
    obtain ⟨hv2, rfl⟩ := hv trivial
    have HV := Aside0.mk hv2
    have HR2 := Aside0.mk hr
    have HF2 := Aside0.mk hf
    clear hv hv2 hr hf
    go_wp2_with fail
    go_ret2
    rw [HFR.out]
    exact ⟨_, rfl, HV.out, HR2.out, HF2.out⟩
  · rw [if_pos he] at HFR
    have q1 : (er != 0) = true := by simpa using he
    clear he
    go_enter Try.func45, Try.ntmps45
    go_wp2_with fail
    refine HAT.out.mono ?_
    rintro e w1 ⟨rfl, hw⟩
    obtain rfl := hw.symm
    go_wp2_with fail
    refine HRD.out.mono ?_
    rintro e w2 ⟨v, a', rfl, hv, hr, hf⟩
    have HR2 := Aside0.mk hr
    have HF2 := Aside0.mk hf
    clear hv hr hf
    go_wp2_with fail
    refine (HSK.out _ _ HR2.out).mono ?_
    rintro e w3 ⟨rfl, hr, hf⟩
    have HR3 := Aside0.mk hr
    have HF3 := Aside0.mk (HF2.out.trans hf)
    clear hr hf
    go_wp2_with fail
    go_ret2
    rw [HFR.out]
    exact ⟨_, rfl, World.ownsRow_nil _ _ _ _, HR3.out, HF3.out⟩
end Go.Proofs.Ytnpheeendbchbaa.P
