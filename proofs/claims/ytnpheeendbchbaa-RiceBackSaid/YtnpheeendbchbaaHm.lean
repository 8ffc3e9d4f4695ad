/- append of lists of ints; the walk of shawmlaw05.RiceParts. -/
import Derived.Test.YtnpheeendbchbaaHl
namespace Go.Proofs.Ytnpheeendbchbaa.P
open Go.RowKit Go.Shelf Go.Proofs.Ytnpheeendbchbaa.Bits Go.Proofs.YtnpheeendbchbaaW.PrintWords Go.Proofs.YtnpheeendbchbaaW.PrintLast Go.Proofs.YtnpheeendbchbaaW.PrintMore
set_option linter.unusedVariables false
set_option linter.unusedSimpArgs false
attribute [local go_sem ↓] Go.wp_at_zero Go.wp_at_succ

/-- A row of ints of one's own, in blocks of S. -/
abbrev RI (S : Nat → Prop) (w : World) (v : Value) (B : List Int) : Prop := Kd.R (Kd.int .i64) 3 w 0 S v B
theorem append_run64 {S : Nat → Prop} (W : World) (v : Value) (xs ys : List Int) (A : Option Addr) (m c : Nat) (HO : RI S W v xs) (HR : Kd.C (Kd.int .i64) W A m ys) (hl : xs.length + m ≤ 1000000000) :
    ∃ v1 w1, (Builtin.append_ #[40, 40] 40 #[v, .slice A m c]).run Try.prog W = .ok v1 w1 ∧ RI (fun k => S k ∨ k = W.heap.size) w1 v1 (xs ++ ys) ∧ W.grownBy w1 v.ownBlock := by
  obtain ⟨i0, hi, hzz⟩ := Option.map_eq_some_iff.1 iinfo
  simp only [Prod.mk.injEq] at hzz
  obtain ⟨hz0, hz1, hz2⟩ := hzz
  have HO' := Kd.own_of_R HO
  have HR' := Kd.reads_of_C (enc := Value.int .i64) (d := (0 : Int)) (h1 := fun _ => rfl) HR
  have hm : ys.length = m := HR'.1
  have ht := Try.underlying40
  rcases A with _ | ad
  · have h0 : m = 0 := by
      rcases Nat.eq_zero_or_pos m with h0 | h0
      · exact h0
      · obtain ⟨ad, h, _⟩ := HR'.2.2 h0
        cases h
    subst h0
    obtain rfl : ys = [] := List.eq_nil_of_length_eq_zero hm
    refine ⟨v, W, ?_, by rw [List.append_nil]; exact Kd.R_mono HO (fun k hk => .inl hk), World.grownBy.refl W _⟩
    rcases HO'.2 with ⟨rfl, hn⟩ | ⟨g, cap, cur, rfl, _, _, hnc, _⟩
    · simp [Builtin.append_, run_underlying ht, sizeOf, typeInfo, hi, Builtin.lenOf, Builtin.firstCells]
    · simp [Builtin.append_, run_underlying ht, sizeOf, typeInfo, hi, Builtin.lenOf, Builtin.firstCells, hnc, storeCells]
  · have hcells : ∀ j u, (encs (Value.int .i64) ys)[j]? = some u → W.cell? (ad.add j) = some u := by
      intro j u hu
      have hj : j < ys.length := by
        rcases Nat.lt_or_ge j ys.length with h | h
        · exact h
        · simp [encs, List.getElem?_eq_none h] at hu
      obtain ⟨ad', h', hc⟩ := HR'.2.2 (by omega)
      obtain rfl := Option.some.inj h'
      rw [encs_get (d := (0 : Int)) ys j hj] at hu
      rw [← hu]
      exact hc j (by omega)
    obtain ⟨v1, w1, hr, h2, h3, _, h5⟩ := run_append_own_at (P := Try.prog) W 0 40 40 3 i0 _ 1 8 ht hi hz0 hz1 hz2 rfl (by omega) v xs.length (encs (Value.int .i64) xs) HO' ad m c (encs (Value.int .i64) ys) (by simp [encs, hm]) hcells
      (by intro u hu; simp only [encs, List.mem_map] at hu; obtain ⟨q, _, rfl⟩ := hu; rfl) (by simp only [maxLen]; omega) (by omega) (Nat.zero_le _)
    refine ⟨v1, w1, hr, Kd.R_of_own (by simpa [encs, hm] using h2) (fun k hk => ?_), h3⟩
    rcases h5 with e | e
    · exact .inl (HO.1 k (by rw [← e]; exact hk))
    · rw [e] at hk; cases hk; exact .inr rfl

abbrev noInts : Obj := .cells #[] 3 (0, 0)
theorem empty_RI (W : World) : RI (fun k => k = W.heap.size) (W.alloc noInts) (.slice (some ⟨W.heap.size, 0, none⟩) 0 0) [] :=
  Kd.R_of_own (own_lit_of (enc := fun x => Value.int .i64 x) W 0 3 [] (Nat.zero_le _) (by decide)) (fun k hk => by simpa [Value.ownBlock] using hk.symm)
theorem right_l0 (l : List Int) (hl : l.length ≤ 9000000000000000000) : ∀ (f i : Nat), i ≤ l.length → l.length - i < f → shawmlaw05_right.l0 f l (l.length : Int) (i : Int) = some ((l.drop i).all small)
  | 0, i, _, h => by omega
  | f + 1, i, hi, hf => by
    unfold shawmlaw05_right.l0
    by_cases hlt : i < l.length
    · have hr : rd l (i : Int) = l[i] := by unfold rd; rw [Int.toNat_natCast, List.getD_eq_getElem?_getD, List.getElem?_eq_getElem hlt]; rfl
      rw [if_pos (by omega), if_pos (by omega), if_pos (by omega), hr, List.drop_eq_getElem_cons hlt, List.all_cons]
      by_cases h1 : l[i] < -2147483648
      · rw [if_pos h1]
        have : small l[i] = false := by unfold small; rw [decide_eq_false (by omega), Bool.false_and]
        rw [this, Bool.false_and]
      · rw [if_neg h1]
        by_cases h2 : 2147483648 ≤ l[i]
        · rw [if_pos h2]
          have : small l[i] = false := by unfold small; rw [decide_eq_false (show ¬ l[i] ≤ 2147483647 by omega), Bool.and_false]
          rw [this, Bool.false_and]
        · rw [if_neg (by omega)]
          have : small l[i] = true := (small_iff _).2 (by omega)
          rw [this, Bool.true_and, wrap64_id (by omega) (by omega), show (i : Int) + 1 = ((i + 1 : Nat) : Int) by omega]
          exact right_l0 l hl f (i + 1) (by omega) (by omega)
    · obtain rfl : i = l.length := by omega
      rw [if_neg (by omega), List.drop_length]
      rfl
theorem right_f (l : List Int) (f : Nat) (hl : l.length ≤ 9000000000000000000) (hf : l.length < f) : shawmlaw05_right.f f l = some (l.all small) := by
  unfold shawmlaw05_right.f
  have := right_l0 l hl f 0 (by omega) (by omega)
  rwa [List.drop_zero] at this
theorem right_any (A : Option Addr) (c : Nat) (l : List Int) (w : World) (hC : Kd.C (Kd.int .i64) w A l.length l) (hc : l.length ≤ c) (hl : l.length ≤ 9000000000000000000) :
    Calls Try.prog 31 #[.slice A l.length c] w fun e w' => e = .returned (.bool (l.all small)) ∧ Drawn0 w w' := shawmlaw05_right.calls (l.length + 1) A c l _ w hC hc (right_f l _ hl (by omega))
theorem sumW_append (a b : List Int) (k : Nat) : sumW (a ++ b) k = sumW a k + sumW b k := by unfold sumW; rw [List.map_append, List.sum_append]
theorem fCost_ok {l : List Int} (hs : smallL l) (hl : l.length ≤ 8192) (k : Nat) (hk : k ≤ 14) : fCost l (k : Int) = (sumW l k, 0) := by
  unfold fCost
  rw [if_neg (by omega), if_neg (by rw [chk_zero.2 ⟨hl, hs⟩]; simp), Int.toNat_natCast]
theorem sum14 {l : List Int} (h : ∀ v ∈ l, -196608 ≤ v ∧ v < 196608) : 15 * (l.length : Int) ≤ sumW l 14 ∧ sumW l 14 ≤ 38 * (l.length : Int) := by
  induction l with
  | nil => simp [sumW]
  | cons v l ih =>
    have h1 := h v (by simp)
    have h2 := ih (fun x hx => h x (by simp [hx]))
    have h3 : 15 ≤ lenW v 14 ∧ lenW v 14 ≤ 38 := by
      unfold lenW foldI
      simp only [Int.reducePow]
      split <;> split <;> omega
    rw [sumW_cons, List.length_cons]
    omega

set_option maxHeartbeats 8000000 in
set_option maxRecDepth 100000 in
theorem RiceParts_any (A : Option Addr) (c : Nat) (a : List Int) (A2 : Option Addr) (c2 : Nat) (b : List Int) (kn : Nat) (w : World) (hC : Kd.C (Kd.int .i64) w A a.length a) (hc : a.length ≤ c) (hl : a.length ≤ 1000000000000000000)
    (hC2 : Kd.C (Kd.int .i64) w A2 b.length b) (hc2 : b.length ≤ c2) (hl2 : b.length ≤ 1000000000000000000) (hkn : kn < 256) :
    Calls Try.prog 6 #[.slice A a.length c, .slice A2 b.length c2, .int .u8 (kn : Int)] w fun e w' => e = .returned (.bool true) ∧ Below w.heap.size w w' := by
  have HC := Aside0.mk hC
  have HC2 := Aside0.mk hC2
  have HBw := Aside0.mk (Below.refl w.heap.size w)
  by_cases h1 : 600 < a.length + b.length
  · have d1 : decide ((600 : Int) < (a.length : Int) + (b.length : Int)) = true := by simp; omega
    clear h1 hC hC2
    go_enter Try.func6, Try.ntmps6
    go_wp2_with fail
    refine (awake_any w).mono ?_
    rintro e w9 ⟨rfl, hb⟩
    have HB9 := Aside0.mk (HBw.out.trans (hb.mono HBw.out.size))
    clear hb
    go_wp2_with fail
    go_ret
    exact ⟨rfl, HB9.out⟩
  have d1 : decide ((600 : Int) < (a.length : Int) + (b.length : Int)) = false := by simp; omega
  have HR1 := Aside0.mk (right_any A c a w hC hc (by omega))
  have HR2 := Aside0.mk (fun W hW => right_any A2 c2 b W hW hc2 (by omega))
  clear hC hC2
  by_cases hs1 : a.all small = true
  case neg =>
    have e1 : a.all small = false := by simpa using hs1
    rw [e1] at HR1
    clear hs1 e1 h1
    go_enter Try.func6, Try.ntmps6
    go_wp2_with fail
    refine HR1.out.mono ?_
    rintro e w1 ⟨rfl, hd⟩
    have HB1 := Aside0.mk hd.below
    clear hd
    simp only [Bool.not_false]
    go_wp2_with fail
    refine (awake_any w1).mono ?_
    rintro e w9 ⟨rfl, hb⟩
    have HB9 := Aside0.mk (HB1.out.trans (hb.mono HB1.out.size))
    clear hb
    go_wp2_with fail
    go_ret
    exact ⟨rfl, HB9.out⟩
  rw [hs1] at HR1
  by_cases hs2 : b.all small = true
  case neg =>
    have e1 : b.all small = false := by simpa using hs2
    simp only [e1] at HR2
    clear hs1 hs2 e1 h1
    go_enter Try.func6, Try.ntmps6
    go_wp2_with fail
    refine HR1.out.mono ?_
    rintro e w1 ⟨rfl, hd⟩
    have HB1 := Aside0.mk hd.below
    clear hd
    simp only [Bool.not_true]
    go_wp2_with fail
    refine (HR2.out w1 (Kd.C_below HC2.out HB1.out)).mono ?_
    rintro e w2 ⟨rfl, hd⟩
    have HB2 := Aside0.mk (HB1.out.trans (hd.below.mono HB1.out.size))
    clear hd
    simp only [Bool.not_false]
    go_wp2_with fail
    refine (awake_any w2).mono ?_
    rintro e w9 ⟨rfl, hb⟩
    have HB9 := Aside0.mk (HB2.out.trans (hb.mono HB2.out.size))
    clear hb
    go_wp2_with fail
    go_ret
    exact ⟨rfl, HB9.out⟩
  simp only [hs2] at HR2
  have ha := (all_small a).1 hs1
  have hb := (all_small b).1 hs2
  have hab : smallL (a ++ b) := fun v hv => by
    rcases List.mem_append.1 hv with h | h
    · exact ha v h
    · exact hb v h
  obtain ⟨i, hi⟩ : ∃ i, i = kn % 15 := ⟨_, rfl⟩
  have hi14 : i ≤ 14 := by omega
  have HI : Aside0 (((kn : Int) % 15) = (i : Int)) := ⟨by omega⟩
  have hco1 := fun W hW => Cost_any A c a (i : Int) W hW hc (by omega)
  have hco2 := fun W hW => Cost_any A2 c2 b (i : Int) W hW hc2 (by omega)
  rw [fCost_ok ha (by omega) i hi14] at hco1
  rw [fCost_ok hb (by omega) i hi14] at hco2
  have hco3 := fun A3 c3 W hW hc3 => Cost_any A3 c3 (a ++ b) (i : Int) W hW hc3 (by simp; omega)
  have hco4 := fun A3 c3 W hW hc3 => Cost_any A3 c3 (a ++ b) 14 W hW hc3 (by simp; omega)
  have hlab : (a ++ b).length ≤ 600 := by rw [List.length_append]; omega
  rw [fCost_ok hab (by omega) i hi14, sumW_append] at hco3
  have h14 := fCost_ok hab (by omega) 14 (by omega)
  rw [show ((14 : Nat) : Int) = 14 from rfl] at h14
  rw [h14] at hco4
  have H14 := Aside0.mk (@sum14 (a ++ b))
  have hb1 := sumW_bound ha hi14
  have hb2 := sumW_bound hb hi14
  have hb3 := sumW_bound hab (k := 14) (by omega)
  have HCO1 := Aside0.mk hco1
  have HCO2 := Aside0.mk hco2
  have HCO3 := Aside0.mk hco3
  have HCO4 := Aside0.mk hco4
  have HHL : Aside0 (a.length + b.length ≤ 600) := ⟨by omega⟩
  have HABL : Aside0 ((a ++ b).length = a.length + b.length) := ⟨List.length_append⟩
  generalize sumW a i = s1 at *
  generalize sumW b i = s2 at *
  generalize sumW (a ++ b) 14 = s3 at *
  have q3 : (s1 + s2 != s1 + s2) = false := by simp
  have hs1b : 0 ≤ s1 ∧ s1 ≤ 34200 := by omega
  have hs2b : 0 ≤ s2 ∧ s2 ≤ 34200 := by omega
  have hs3b : 0 ≤ s3 ∧ s3 ≤ 34200 := by omega
  clear hco1 hco2 hco3 hco4 hs1 hs2 ha hb hab h14 hi
  go_enter Try.func6, Try.ntmps6
  go_wp2_with fail
  refine HR1.out.mono ?_
  rintro e w1 ⟨rfl, hd⟩
  have HB1 := Aside0.mk hd.below
  clear hd
  simp only [Bool.not_true]
  go_wp2_with fail
  refine (HR2.out w1 (Kd.C_below HC2.out HB1.out)).mono ?_
  rintro e w2 ⟨rfl, hd⟩
  have HB2 := Aside0.mk (HB1.out.trans (hd.below.mono HB1.out.size))
  clear hd HB1
  simp only [Bool.not_true]
  obtain ⟨v3, w3, hrun3, hr3, hg3⟩ := append_run64 (S := fun k => k = w2.heap.size) (w2.alloc noInts) (.slice (some ⟨w2.heap.size, 0, none⟩) 0 0) [] a A a.length c (empty_RI w2) (Kd.C_alloc (Kd.C_below HC.out HB2.out) _) (by have := HHL.out; simp; omega)
  rw [List.nil_append] at hr3
  have hb3' : Below w2.heap.size w2 w3 := (below_alloc (Below.refl _ _) _).grown hg3 (by simp) (fun k hk => by
    have : w2.heap.size = k := by simpa [Value.ownBlock] using hk
    omega)
  obtain ⟨A3, c3, hv3⟩ := Kd.R_slice hr3
  subst hv3
  obtain ⟨v4, w4, hrun4, hr4, hg4⟩ := append_run64 w3 _ a b A2 b.length c2 hr3 (Kd.C_below (Kd.C_below HC2.out HB2.out) hb3') (by have := HHL.out; omega)
  have hb4' : Below w2.heap.size w2 w4 := hb3'.grown hg4 hb3'.size (fun k hk => by
    have h := hr3.1 k hk
    rcases h with h | h
    · omega
    · rw [h]; simp)
  obtain ⟨A4, c4, hv4, hc4, hC4⟩ := Kd.R_reads hr4
  subst hv4
  have HRUN3 := Aside0.mk hrun3
  have HRUN4 := Aside0.mk hrun4
  have HBw4 := Aside0.mk (HB2.out.trans (hb4'.mono HB2.out.size))
  have HXw4 := Aside0.mk hC4
  have HCC4 := Aside0.mk hc4
  have hi' := HI.out
  clear hrun3 hr3 hg3 hb3' hrun4 hr4 hg4 hb4' hC4 hc4
  generalize a ++ b = ab at *
  go_wp2_with (at_builtin; first | (refine wpList_run_append rfl _ _ _ rfl _ _ rfl rfl HRUN3.out ?_) | (refine wpList_run_append rfl _ _ _ rfl _ _ rfl rfl HRUN4.out ?_))
  clear hi'
  refine (HCO1.out w4 (Kd.C_below HC.out HBw4.out)).mono ?_
  rintro e w5 ⟨rfl, hd⟩
  have HBw5 := Aside0.mk (HBw4.out.trans (hd.below.mono HBw4.out.size))
  have HXw5 := Aside0.mk (Kd.C_below HXw4.out hd.below)
  clear hd
  go_wp2_with fail
  refine (HCO2.out w5 (Kd.C_below HC2.out HBw5.out)).mono ?_
  rintro e w6 ⟨rfl, hd⟩
  have HBw6 := Aside0.mk (HBw5.out.trans (hd.below.mono HBw5.out.size))
  have HXw6 := Aside0.mk (Kd.C_below HXw5.out hd.below)
  clear hd
  go_wp2_with fail
  refine (HCO3.out A4 c4 w6 HXw6.out HCC4.out).mono ?_
  rintro e w7 ⟨rfl, hd⟩
  have HBw7 := Aside0.mk (HBw6.out.trans (hd.below.mono HBw6.out.size))
  have HXw7 := Aside0.mk (Kd.C_below HXw6.out hd.below)
  clear hd HXw4 HXw5 HXw6 HBw4 HBw5 HBw6 HRUN3 HRUN4 HCO1 HCO2 HCO3
  go_wp2_with fail
  go_loopw [81] (fun u wr => ∃ j : Nat, u = .int .i64 (j : Int) ∧ j ≤ ab.length ∧ Aside0 (∀ m, m < j → -196608 ≤ ab.getD m 0 ∧ ab.getD m 0 < 196608) ∧ Aside0 (Below w7.heap.size w7 wr)) (fun u _ => ab.length - (intOf u).toNat)
  case atStart => exact ⟨0, rfl, Nat.zero_le _, ⟨fun m hm => by omega⟩, ⟨Below.refl _ _⟩⟩
  case round =>
    obtain ⟨j, rfl, hj, HRG, HBB⟩ := hrel
    have HBt := Aside0.mk (HBw7.out.trans (HBB.out.mono HBw7.out.size))
    by_cases hlt : j < ab.length
    · obtain ⟨ad, e, hx⟩ := at64 (Kd.C_below HXw7.out HBB.out) j hlt
      subst e
      have HRX : Aside0 (-196608 ≤ ab.getD j 0 ∧ ab.getD j 0 < 196608 → ∀ m, m < j + 1 → -196608 ≤ ab.getD m 0 ∧ ab.getD m 0 < 196608) := ⟨fun h m hm => by
        by_cases e : m = j
        · rw [e]; exact h
        · exact HRG.out m (by omega)⟩
      generalize ab.getD j 0 = x at *
      by_cases hx1 : 196608 ≤ x
      · have d2 : decide (196608 ≤ x) = true := by simpa using hx1
        clear hx1
        go_wp2_with fail
        refine (awake_any wr).mono ?_
        rintro e w9 ⟨rfl, hb⟩
        have HB9 := Aside0.mk (HBt.out.trans (hb.mono HBt.out.size))
        clear hb
        go_wp2_with fail
        go_ret
        exact ⟨rfl, HB9.out⟩
      have d2 : decide (196608 ≤ x) = false := by simpa using hx1
      by_cases hx2 : x < -196608
      · have d3 : decide (x < -196608) = true := by simpa using hx2
        clear hx1 hx2
        go_wp2_with fail
        refine (awake_any wr).mono ?_
        rintro e w9 ⟨rfl, hb⟩
        have HB9 := Aside0.mk (HBt.out.trans (hb.mono HBt.out.size))
        clear hb
        go_wp2_with fail
        go_ret
        exact ⟨rfl, HB9.out⟩
      have d3 : decide (x < -196608) = false := by simpa using hx2
      have HXR : Aside0 (-196608 ≤ x ∧ x < 196608) := ⟨by omega⟩
      clear hx1 hx2
      go_wp2_with fail
      go_roundw
      case rel => exact ⟨j + 1, by go_num, by omega, ⟨HRX.out HXR.out⟩, HBB⟩
      case measure => simp [intOf]; omega
    · have hall : ∀ v ∈ ab, -196608 ≤ v ∧ v < 196608 := fun v hv => by
        obtain ⟨m, hm, rfl⟩ := List.getElem_of_mem hv
        have := HRG.out m (by omega)
        rwa [List.getD_eq_getElem?_getD, List.getElem?_eq_getElem hm] at this
      have h38 := H14.out hall
      have d4 : decide (s3 ≤ 38 * (ab.length : Int)) = true := by simpa using h38.2
      have d5 : decide (15 * (ab.length : Int) ≤ s3) = true := by simpa using h38.1
      clear hall h38
      go_wp2_with fail
      refine (HCO4.out A4 c4 wr (Kd.C_below HXw7.out HBB.out) HCC4.out).mono ?_
      rintro e w8 ⟨rfl, hd⟩
      have HB8 := Aside0.mk (HBt.out.trans (hd.below.mono HBt.out.size))
      clear hd
      go_wp2_with fail
      refine (awake_any w8).mono ?_
      rintro e w9 ⟨rfl, hb⟩
      have HB9 := Aside0.mk (HB8.out.trans (hb.mono HB8.out.size))
      clear hb
      go_wp2_with fail
      go_ret
      exact ⟨rfl, HB9.out⟩
end Go.Proofs.Ytnpheeendbchbaa.P
