/- The walk of shawmlaw22.FrameFound. -/
import Derived.Test.YtnaklnehichhpaaDoorKq
namespace Go.Proofs.YtnaklnehichhpaaDoor.P
open Go.RowKit Go.Shelf Go.Proofs.YtnaklnehichhpaaDoor.Bits Go.Proofs.YtnaklnehichhpaaDoorW.PrintWords Go.Proofs.YtnaklnehichhpaaDoorW.PrintLast Go.Proofs.YtnaklnehichhpaaDoorW.PrintMore
set_option linter.unusedVariables false
set_option linter.unusedSimpArgs false

/-- Read at a place, told by whether there is a frame. -/
theorem Read_ok (A : Option Addr) (c : Nat) (B : List Int) (n : Nat) (w : World) (hC : Kd.C (Kd.int .u8) w A B.length B) (h8 : is8 B) (hBl : B.length ≤ 1000000000) (hc : B.length ≤ c) (hg : HG w) :
    Calls Tryd.prog 16 #[.slice A B.length c, .int .i64 (n : Int)] w fun e w' => ∃ (x0 : Int) (x1 : Bool) (x2 x3 x4 x5 x6 : Int) (A' : Option Addr) (c' : Nat) (fe : Int), e = .returned (.tuple #[.agg #[.int .i64 x0, .bool x1, .int .i64 x2, .int .i64 x3, .int .i64 x4, .int .i64 x5, .int .i64 x6], .slice A' (fRead B (n : Int)).2.1.length c', .int .i64 fe]) ∧ (fe == 0) = okAt B n ∧ Below w.heap.size w w' := by
  refine (Read_any A c B (n : Int) w hC h8 hBl hc hg).mono ?_
  rintro e w' ⟨v, S', rfl, hr, _, hb⟩
  obtain ⟨A', c', hv⟩ := Kd.R_slice hr
  subst hv
  exact ⟨_, _, _, _, _, _, _, A', c', _, rfl, by unfold okAt; rw [Bool.eq_iff_iff]; simp, hb⟩
attribute [local go_sem ↓] Go.wp_at_zero Go.wp_at_succ
set_option maxHeartbeats 4000000 in
set_option maxRecDepth 100000 in
theorem FrameFound_any (A : Option Addr) (c : Nat) (B : List Int) (a : Nat) (w : World) (hg : HG w)
    (hC : Kd.C (Kd.int .u8) w A B.length B) (h8 : is8 B) (hl : B.length ≤ 9000000000000000000) (hc : B.length ≤ c) (ha : a < 65536) :
    Calls Tryd.prog 9 #[.slice A B.length c, .int .u16 (a : Int)] w fun e w' => e = .returned (.bool true) ∧ Below w.heap.size w w' := by
  have HC := Aside0.mk hC
  have H8 := Aside0.mk h8
  have HGW := Aside0.mk hg
  clear hC h8 hg
  by_cases hbig : 2000 < B.length
  · have q1 : decide ((2000 : Int) < (B.length : Int)) = true := by simp; omega
    go_enter Tryd.func9, Tryd.ntmps9
    go_wp2_with fail
    refine (awake_any _ HGW.out).mono ?_
    rintro e w9 ⟨rfl, hb⟩
    go_wp2_with fail
    go_ret
    exact ⟨rfl, hb⟩
  have q1 : decide ((2000 : Int) < (B.length : Int)) = false := by simp; omega
  obtain ⟨k, hk⟩ : ∃ k, k = a % (B.length + 1) := ⟨_, rfl⟩
  have hkl : k ≤ B.length := by rw [hk]; have := Nat.mod_lt a (show 0 < B.length + 1 by omega); omega
  have hm : (a : Int) % ((B.length : Int) + 1) = (k : Int) := by rw [hk]; simp
  have HK := Aside0.mk hk
  clear hk
  obtain ⟨fi, fe, m, hF, hm0, hok, hnj⟩ : ∃ (fi fe : Int) (m : Nat), fFind B (k : Int) = (fi, fe) ∧ (k ≤ m ∧ m ≤ B.length) ∧ ((fe = 0 ∧ fi = (m : Int) ∧ okAt B m = true) ∨ (fe = 5 ∧ m = B.length)) ∧ ∀ i, k ≤ i → i < m → okAt B i = false := by
    unfold fFind
    rw [if_neg (by omega), Int.toNat_natCast]
    cases hn : nextF B k with
    | some j =>
      obtain ⟨h1, h2, h3, h4⟩ := nextF_some hn
      exact ⟨_, _, j, rfl, ⟨h1, by omega⟩, .inl ⟨rfl, rfl, h3⟩, h4⟩
    | none => exact ⟨_, _, B.length, rfl, ⟨hkl, Nat.le_refl _⟩, .inr ⟨rfl, rfl⟩, nextF_none hn⟩
  have hfind := Find_any A c B (k : Int) w HC.out H8.out (by omega) hc HGW.out
  rw [hF] at hfind
  have HFI := Aside0.mk hfind
  have HNJ := Aside0.mk hnj
  clear hfind hF hnj
  obtain ⟨hkm, hml⟩ := hm0
  rcases hok with ⟨rfl, rfl, hok⟩ | ⟨rfl, rfl⟩
  · have HOK := Aside0.mk hok
    clear hok
    go_enter Tryd.func9, Tryd.ntmps9
    go_wp2_with fail
    refine HFI.out.mono ?_
    rintro e w1 ⟨rfl, hb⟩
    have HB1 := Aside0.mk hb
    clear hb
    go_wp2_with fail
    refine (Read_ok A c B m w1 (Kd.C_below HC.out HB1.out) H8.out (by omega) hc (HGW.out.below HB1.out)).mono ?_
    rintro e w2 ⟨x0, x1, x2, x3, x4, x5, x6, A', c', fe, rfl, hfe, hb⟩
    rw [HOK.out] at hfe
    obtain rfl : fe = 0 := by simpa using hfe
    have HB2 := Aside0.mk (below_alloc (HB1.out.trans (hb.mono HB1.out.size)) (.cells #[.int .i64 x0, .bool x1, .int .i64 x2, .int .i64 x3, .int .i64 x4, .int .i64 x5, .int .i64 x6] 23))
    clear hb hfe
    have q3 : decide ((m : Int) < (k : Int)) = false := by simp; omega
    have q4 : decide ((B.length : Int) < (m : Int)) = false := by simp; omega
    have q5 : decide (m < k) = false := by simp; omega
    have q6 : decide (B.length < m) = false := by simp; omega
    go_wp2_with fail
    clear q3
    go_loopw [11] (fun i wr => ∃ j : Nat, i = .int .i64 (j : Int) ∧ k ≤ j ∧ j ≤ m ∧ Aside0 (Below w.heap.size w wr)) (fun i _ => m - (intOf i).toNat)
    case atStart => exact ⟨k, rfl, Nat.le_refl _, hkm, HB2⟩
    case round =>
      obtain ⟨j, rfl, hkj, hjm, HB⟩ := hrel
      by_cases hlt : j < m
      · have q3 : decide ((j : Int) < (m : Int)) = true := by simp; omega
        go_wp2_with fail
        refine (Read_ok A c B j wr (Kd.C_below HC.out HB.out) H8.out (by omega) hc (HGW.out.below HB.out)).mono ?_
        rintro e w2 ⟨x0, x1, x2, x3, x4, x5, x6, A', c', fe, rfl, hfe, hb⟩
        rw [HNJ.out j hkj hlt] at hfe
        have HB2 := Aside0.mk (HB.out.trans (hb.mono HB.out.size))
        clear hb
        go_wp2_with fail
        go_roundw
        case rel => exact ⟨j + 1, by go_num, by omega, by omega, ⟨below_alloc HB2.out _⟩⟩
        case measure => simp [intOf]; omega
      · have hjm' : j = m := by omega
        subst hjm'
        go_wp2_with fail
        refine (awake_any _ (HGW.out.below HB.out)).mono ?_
        rintro e w9 ⟨rfl, hb⟩
        have HB9 := Aside0.mk (HB.out.trans (hb.mono HB.out.size))
        clear hb
        go_wp2_with fail
        go_ret
        exact ⟨rfl, HB9.out⟩
  · go_enter Tryd.func9, Tryd.ntmps9
    go_wp2_with fail
    refine HFI.out.mono ?_
    rintro e w1 ⟨rfl, hb⟩
    have HB1 := Aside0.mk hb
    clear hb
    go_wp2_with fail
    go_loopw [11] (fun i wr => ∃ j : Nat, i = .int .i64 (j : Int) ∧ k ≤ j ∧ j ≤ B.length ∧ Aside0 (Below w.heap.size w wr)) (fun i _ => B.length - (intOf i).toNat)
    case atStart => exact ⟨k, rfl, Nat.le_refl _, hkm, HB1⟩
    case round =>
      obtain ⟨j, rfl, hkj, hjm, HB⟩ := hrel
      by_cases hlt : j < B.length
      · have q3 : decide ((j : Int) < (B.length : Int)) = true := by simp; omega
        go_wp2_with fail
        refine (Read_ok A c B j wr (Kd.C_below HC.out HB.out) H8.out (by omega) hc (HGW.out.below HB.out)).mono ?_
        rintro e w2 ⟨x0, x1, x2, x3, x4, x5, x6, A', c', fe, rfl, hfe, hb⟩
        rw [HNJ.out j hkj hlt] at hfe
        have HB2 := Aside0.mk (HB.out.trans (hb.mono HB.out.size))
        clear hb
        go_wp2_with fail
        go_roundw
        case rel => exact ⟨j + 1, by go_num, by omega, by omega, ⟨below_alloc HB2.out _⟩⟩
        case measure => simp [intOf]; omega
      · have hjm' : j = B.length := by omega
        have q3 : decide ((j : Int) < (B.length : Int)) = false := by simp; omega
        go_wp2_with fail
        refine (awake_any _ (HGW.out.below HB.out)).mono ?_
        rintro e w9 ⟨rfl, hb⟩
        have HB9 := Aside0.mk (HB.out.trans (hb.mono HB.out.size))
        clear hb
        go_wp2_with fail
        go_ret
        exact ⟨rfl, HB9.out⟩
end Go.Proofs.YtnaklnehichhpaaDoor.P
