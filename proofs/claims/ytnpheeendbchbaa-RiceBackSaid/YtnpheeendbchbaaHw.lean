/- The walk of shawmlaw05.RiceBack. -/
import Derived.Test.YtnpheeendbchbaaHv
namespace Go.Proofs.Ytnpheeendbchbaa.P
open Go.RowKit Go.Shelf Go.Proofs.Ytnpheeendbchbaa.Bits Go.Proofs.YtnpheeendbchbaaW.PrintWords Go.Proofs.YtnpheeendbchbaaW.PrintLast Go.Proofs.YtnpheeendbchbaaW.PrintMore
set_option linter.unusedVariables false
set_option linter.unusedSimpArgs false
attribute [local go_sem ↓] Go.wp_at_zero Go.wp_at_succ

theorem openE_pk {L : List Int} (hl : L.length ≤ 1048576) : openE (pk L) (L.length : Int) = 0 := by
  have := pk_length L
  unfold openE
  rw [if_neg (by omega), if_neg (by omega)]
/-- Open of what a writer has. -/
theorem Open_pk (A : Option Addr) (c : Nat) (L : List Int) (w : World) (h01 : is01 L) (hl : L.length ≤ 1048576) (hC : Kd.C (Kd.int .u8) w A (pk L).length (pk L)) (hc : (pk L).length ≤ c) :
    Calls Try.prog 17 #[.slice A (pk L).length c, .int .i64 (L.length : Int)] w fun e w' => ∃ p S, e = .returned (.tuple #[.pointer (some ⟨p, 0, none⟩), .int .i64 0]) ∧ Rd w' S p L 0 ∧ w.heap.size ≤ p ∧ (∀ k, S k → w.heap.size ≤ k) ∧ Below w.heap.size w w' := by
  refine (Open_any A c (pk L) (L.length : Int) w hC (pk_is8 h01) (pk_len_le hl) hc).mono ?_
  intro e w' hop
  unfold OpenPost at hop
  rw [openE_pk hl, if_pos rfl, Int.toNat_natCast, ofB_pk_all h01] at hop
  exact hop
theorem fPut_fit {L : List Int} {v : Int} {k : Nat} (hv : -2147483648 ≤ v ∧ v ≤ 2147483647) (hk : k ≤ 14) (hl : L.length ≤ 1000000) : fPut L v (k : Int) = (0, L ++ word v k) := by
  have := lenW_bound hv hk
  unfold fPut wRice
  rw [if_neg (by omega), if_pos ((small_iff v).2 hv), Int.toNat_natCast, if_neg (by omega)]

set_option maxHeartbeats 8000000 in
set_option maxRecDepth 100000 in
theorem RiceBack_any (A : Option Addr) (c : Nat) (l : List Int) (kn : Nat) (w : World) (hC : Kd.C (Kd.int .i64) w A l.length l) (hc : l.length ≤ c) (hl : l.length ≤ 1000000000000000000) (hkn : kn ≤ 255) :
    Calls Try.prog 11 #[.slice A l.length c, .int .u8 (kn : Int)] w fun e w' => e = .returned (.bool true) ∧ Below w.heap.size w w' := by
  have HC := Aside0.mk hC
  have HFL := Aside0.mk (Kd.C_F (Kd.heap_int .i64) hC)
  by_cases h1 : 600 < l.length
  · have d1 : decide ((600 : Int) < (l.length : Int)) = true := by simp; omega
    clear h1 hC
    go_enter Try.func11, Try.ntmps11
    go_wp2_with fail
    refine (awake_any w).mono ?_
    rintro e w1 ⟨rfl, hb⟩
    go_wp2_with fail
    go_ret
    exact ⟨rfl, hb⟩
  have d1 : decide ((600 : Int) < (l.length : Int)) = false := by simp; omega
  have HR1 := Aside0.mk (right_any A c l w hC hc (by omega))
  clear hC
  by_cases hs1 : l.all small = true
  case neg =>
    have e1 : l.all small = false := by simpa using hs1
    rw [e1] at HR1
    clear hs1 e1 h1
    go_enter Try.func11, Try.ntmps11
    go_wp2_with fail
    refine HR1.out.mono ?_
    rintro e w1 ⟨rfl, hd⟩
    have HB1 := Aside0.mk hd.below
    clear hd
    simp only [Bool.not_false]
    go_wp2_with fail
    refine (awake_any w1).mono ?_
    rintro e w9 ⟨rfl, hb⟩
    have HB9 := Aside0.mk (HB1.out.trans (hb.mono HB1.out.size))
    clear hb
    go_wp2_with fail
    go_ret
    exact ⟨rfl, HB9.out⟩
  have hs := (all_small l).1 hs1
  simp only [hs1] at HR1
  obtain ⟨K, hK⟩ : ∃ K, K = kn % 15 := ⟨_, rfl⟩
  have hK14 : K ≤ 14 := by omega
  have HI : Aside0 (((kn : Int) % 15) = (K : Int)) := ⟨by omega⟩
  have hl6 : l.length ≤ 600 := by omega
  obtain ⟨pp, hpp3, hdv, hfw, hfl⟩ := fWrite_small hs hl6
  have hrd := fRead_list hs (by omega) hpp3 hdv
  have hwl := words_len hs hK14
  generalize listBits l pp = LB at *
  obtain ⟨LW, hLW⟩ : ∃ LW, LW = wordsBits l K := ⟨_, rfl⟩
  rw [← hLW] at hwl
  have HLW := Aside0.mk hLW
  have hLWl : LW.length ≤ 40000 := by omega
  have HTK : Aside0 (∀ j, j < l.length → wordsBits (l.take (j + 1)) K = wordsBits (l.take j) K ++ word (l.getD j 0) K) := ⟨fun j hj => wordsBits_take hj K⟩
  have HSP : Aside0 (∀ j, j < l.length → rRice LW (wordsBits (l.take j) K).length K = (l.getD j 0, 0, (wordsBits (l.take (j + 1)) K).length)) := ⟨fun j hj => by
    rw [hLW, words_split hj K, wordsBits_take hj K]
    exact rRice_at _ _ (smallL_getD hs hj) hK14⟩
  have HLJ : Aside0 (∀ j, (wordsBits (l.take j) K).length ≤ 40000) := ⟨fun j => by
    have h1 := words_len (smallL_take hs j) hK14
    have h2 : (l.take j).length ≤ l.length := by rw [List.length_take]; omega
    omega⟩
  have HSM := Aside0.mk hs
  have HLE : Aside0 (wordsBits (l.take l.length) K = LW) := ⟨by rw [List.take_length, hLW]⟩
  have HL0 : Aside0 (wordsBits (l.take 0) K = []) := ⟨rfl⟩
  have HFW := Aside0.mk hfw
  have HRD := Aside0.mk hrd
  have hi' := HI.out
  clear hs1 hs hdv hfw hrd hwl hLW hK h1
  go_enter Try.func11, Try.ntmps11
  go_wp2_with fail
  refine HR1.out.mono ?_
  rintro e w1 ⟨rfl, hd⟩
  have HB1 := Aside0.mk hd.below
  clear hd
  simp only [Bool.not_true]
  go_wp2_with fail
  refine (New_any w1).mono ?_
  rintro e w2 ⟨rfl, hw⟩
  subst hw
  go_wp2_with fail
  refine (New_any _).mono ?_
  rintro e w2 ⟨rfl, hw⟩
  obtain ⟨p, hp⟩ : ∃ p, p = w1.heap.size := ⟨_, rfl⟩
  have hq : (w1.alloc newWr).heap.size = p + 1 := by rw [hp]; simp
  rw [hq, ← hp]
  have hsz2 : w2.heap.size = p + 2 := by rw [hw]; simp; omega
  have hWp : Wr w2 (fun _ => False) p [] := by rw [hw, hp]; exact (Wr.new w1).below (below_alloc (Below.refl _ _) _)
  have hWq : Wr w2 (fun _ => False) (p + 1) [] := by
    have := Wr.new (w1.alloc newWr)
    rw [hq, ← hw] at this
    exact this
  have hb2 : Below w1.heap.size w1 w2 := by rw [hw]; exact below_alloc (below_alloc (Below.refl _ _) _) _
  have HB2 := Aside0.mk (HB1.out.trans (hb2.mono HB1.out.size))
  have HWP := Aside0.mk hWp
  have HWQ := Aside0.mk hWq
  have HN : Aside0 (w.heap.size ≤ p ∧ w2.heap.size = p + 2) := ⟨by have := HB1.out.size; omega, hsz2⟩
  clear hw hp hq hsz2 hWp hWq hb2
  go_wp2_with fail
  go_loopw [32] (fun u wr => ∃ j : Nat, u = .int .i64 (j : Int) ∧ j ≤ l.length ∧ Aside0 (WrTo w2 (fun _ => False) p (wordsBits (l.take j) K) wr)) (fun u _ => l.length - (intOf u).toNat)
  case atStart => exact ⟨0, rfl, Nat.zero_le _, ⟨by rw [HL0.out]; exact HWP.out.wrTo (Below.refl _ _)⟩⟩
  case round =>
    obtain ⟨j, rfl, hj, HJ⟩ := hrel
    by_cases hlt : j < l.length
    · obtain ⟨S1, hW1, hs1, hf1⟩ := HJ.out
      have hb : Below w.heap.size w wr := HB2.out.trans (hf1.to_below HB2.out.size (fun k hk => by rcases hk with o | o; have := HN.out; omega; exact o.elim))
      obtain ⟨ad, e, hx⟩ := at64 (Kd.C_below HC.out hb) j hlt
      subst e
      have hput := Put_any5 S1 p (wordsBits (l.take j) K) (l.getD j 0) (K : Int) wr hW1 (by have := HLJ.out j; omega)
      rw [fPut_fit (smallL_getD HSM.out hlt) hK14 (by have := HLJ.out j; omega), ← HTK.out j hlt] at hput
      have HPUT := Aside0.mk hput
      have HS1 := Aside0.mk hs1
      have HF1 := Aside0.mk hf1
      generalize l.getD j 0 = x at *
      clear hW1 hs1 hf1 hb hput
      go_wp2_with fail
      refine HPUT.out.mono ?_
      rintro e w3 ⟨rfl, h3⟩
      have H3 := Aside0.mk (WrTo.glue HS1.out HF1.out h3)
      clear h3 hx
      go_wp2_with fail
      go_roundw
      case rel => exact ⟨j + 1, by go_num, by omega, H3⟩
      case measure => simp [intOf]; omega
    · obtain rfl : j = l.length := by omega
      rw [HLE.out] at HJ
      obtain ⟨S1, hW1, hs1, hf1⟩ := HJ.out
      have hb3 : Below w.heap.size w wr := HB2.out.trans (hf1.to_below HB2.out.size (fun k hk => by rcases hk with o | o; have := HN.out; omega; exact o.elim))
      have hWq : Wr wr (fun _ => False) (p + 1) [] := HWQ.out.fr hf1 (fun o => by rcases o with o | o; omega; exact o) (fun k hk _ => hk)
      have hS1 : ∀ k, S1 k → p + 2 ≤ k := fun k hk => by
        rcases hs1 k hk with o | o
        · exact o.elim
        · have := HN.out; omega
      have hwr := Write_any5 (fun _ => False) (p + 1) [] A c l wr hWq (by simp) (fun W' hf => Kd.F_now (Kd.F_step (Kd.F_below HFL.out hb3) (fun k hk hlt => hf.block k hlt (fun o => by
        have := HN.out
        rcases o with o | o
        · omega
        · exact o)))) hc (by omega)
      rw [HFW.out] at hwr
      have HWR := Aside0.mk hwr
      have HW1 := Aside0.mk hW1
      have HS1 := Aside0.mk hS1
      have HB3 := Aside0.mk hb3
      clear hW1 hs1 hf1 hb3 hWq hS1 hwr
      go_wp2_with fail
      refine HWR.out.mono ?_
      rintro e w4 ⟨rfl, S2, hW2, hs2, hf2⟩
      have hW14 : Wr w4 S1 p LW := HW1.out.fr hf2 (fun o => by rcases o with o | o; omega; exact o) (fun k hk o => by
        have := HS1.out k hk
        rcases o with o | o
        · omega
        · exact o)
      have hb4 : Below w.heap.size w w4 := HB3.out.trans (hf2.to_below HB3.out.size (fun k hk => by rcases hk with o | o; have := HN.out; omega; exact o.elim))
      have HW14 := Aside0.mk hW14
      have HW2 := Aside0.mk hW2
      have HB4 := Aside0.mk hb4
      clear hW14 hW2 hs2 hf2 hb4
      go_wp2_with fail
      refine (Bytes_any S1 p LW w4 HW14.out (by omega)).mono ?_
      rintro e w5 ⟨v5, S5, rfl, hr5, _, hb5⟩
      obtain ⟨A5, c5, rfl, hc5, hC5⟩ := Kd.R_reads hr5
      have HW15 := Aside0.mk (HW14.out.below hb5)
      have HW25 := Aside0.mk (HW2.out.below hb5)
      have HB5 := Aside0.mk (HB4.out.trans (hb5.mono HB4.out.size))
      have HC5 := Aside0.mk hC5
      have HCC5 := Aside0.mk hc5
      clear hr5 hb5 hC5 hc5
      go_wp2_with fail
      refine (Len_any S1 p LW w5 HW15.out).mono ?_
      rintro e w6 ⟨rfl, hw⟩
      obtain rfl := hw.symm
      go_wp2_with fail
      refine (Open_pk A5 c5 LW w5 HW15.out.bits (by omega) HC5.out HCC5.out).mono ?_
      rintro e w7 ⟨r, Sr, rfl, hRr, hrp, hSr, hb7⟩
      have HW27 := Aside0.mk (HW25.out.below hb7)
      have HB7 := Aside0.mk (HB5.out.trans (hb7.mono HB5.out.size))
      have HR7 := Aside0.mk hRr
      have HRP : Aside0 (w.heap.size ≤ r) := ⟨Nat.le_trans HB5.out.size hrp⟩
      clear hRr hrp hSr hb7
      go_wp2_with fail
      refine (Bytes_any S2 (p + 1) LB w7 HW27.out (by omega)).mono ?_
      rintro e w8 ⟨v8, S8, rfl, hr8, _, hb8⟩
      obtain ⟨A8, c8, rfl, hc8, hC8⟩ := Kd.R_reads hr8
      have HW28 := Aside0.mk (HW27.out.below hb8)
      have HR8 := Aside0.mk (HR7.out.below hb8)
      have HB8 := Aside0.mk (HB7.out.trans (hb8.mono HB7.out.size))
      have HC8 := Aside0.mk hC8
      have HCC8 := Aside0.mk hc8
      clear hr8 hb8 hC8 hc8
      go_wp2_with fail
      refine (Len_any S2 (p + 1) LB w8 HW28.out).mono ?_
      rintro e w9 ⟨rfl, hw⟩
      obtain rfl := hw.symm
      go_wp2_with fail
      refine (Open_pk A8 c8 LB w8 HW28.out.bits (by omega) HC8.out HCC8.out).mono ?_
      rintro e w10 ⟨s, Ss, rfl, hRs, hsp, hSs, hb10⟩
      have HR10 := Aside0.mk (HR8.out.below hb10)
      have HB10 := Aside0.mk (HB8.out.trans (hb10.mono HB8.out.size))
      have HS10 := Aside0.mk hRs
      have hrl := HR8.out.p_lt
      have HRS : Aside0 (r ≠ s ∧ (∀ k, Ss k → k ≠ r) ∧ (∀ k, Sr k → k ≠ s) ∧ w.heap.size ≤ s) := ⟨by omega, fun k hk => by have := hSs k hk; omega, fun k hk => by have := HR8.out.lt k hk; omega, Nat.le_trans HB8.out.size hsp⟩
      clear hRs hsp hSs hb10 hrl
      go_wp2_with fail
      go_loopw [72] (fun u wr => ∃ j : Nat, u = .int .i64 (j : Int) ∧ j ≤ l.length ∧ Aside0 (Rd wr Sr r LW (wordsBits (l.take j) K).length) ∧ Aside0 (Fr (fun k => k = r) w10 wr)) (fun u _ => l.length - (intOf u).toNat)
      case atStart => exact ⟨0, rfl, Nat.zero_le _, ⟨by rw [HL0.out]; exact HR10.out⟩, ⟨Fr.refl _ _⟩⟩
      case round =>
        obtain ⟨j, rfl, hj, HRJ, HFJ⟩ := hrel
        have hb11 : Below w.heap.size w wr := HB10.out.trans (HFJ.out.to_below HB10.out.size (fun k hk => by rw [hk]; exact HRP.out))
        have HB11 := Aside0.mk hb11
        clear hb11
        by_cases hlt : j < l.length
        · obtain ⟨ad, e, hx⟩ := at64 (Kd.C_below HC.out HB11.out) j hlt
          subst e
          have hget := Get_any5 Sr r _ LW (K : Int) wr HRJ.out
          rw [fGet_nat _ _ hK14, HSP.out j hlt] at hget
          unfold RdPost at hget
          dsimp only at hget
          have HGET := Aside0.mk hget
          generalize l.getD j 0 = x at *
          have m1 : (x != x) = false := by simp
          clear hget
          go_wp2_with fail
          refine HGET.out.mono ?_
          rintro e w12 ⟨rfl, hr, hf⟩
          have HR12 := Aside0.mk hr
          have HF12 := Aside0.mk (HFJ.out.trans hf)
          clear hr hf hx
          go_wp2_with fail
          go_roundw
          case rel => exact ⟨j + 1, by go_num, by omega, HR12, HF12⟩
          case measure => simp [intOf]; omega
        · obtain rfl : j = l.length := by omega
          rw [HLE.out] at HRJ
          have hS11 : Rd wr Ss s LB 0 := HS10.out.fr HFJ.out (fun o => HRS.out.1 o.symm) (fun k hk o => HRS.out.2.1 k hk o)
          have hread := Read_any5 Ss s 0 (l.length : Int) LB wr hS11
          rw [HRD.out] at hread
          unfold LReadPost at hread
          dsimp only at hread
          have HREAD := Aside0.mk hread
          clear hS11 hread
          go_wp2_with fail
          refine HREAD.out.mono ?_
          rintro e w12 ⟨v12, rfl, hv12, hr12, hf12⟩
          obtain ⟨A12, c12, rfl, hc12, hC12⟩ := RowV.reads hv12 (by omega)
          have HB12 := Aside0.mk (HB11.out.trans (hf12.to_below HB11.out.size (fun k hk => by rw [hk]; exact HRS.out.2.2.2)))
          have HRr := Aside0.mk (HRJ.out.fr hf12 (fun o => HRS.out.1 o) (fun k hk o => HRS.out.2.2.1 k hk o))
          have HRs := Aside0.mk hr12
          have HC12 := Aside0.mk hC12
          clear hv12 hr12 hf12 hc12 hC12
          go_wp2_with fail
          have cc := Ints_any A12 A l.length l.length c12 c l l w12 HC12.out (Kd.C_below HC.out HB12.out) (by omega) (by omega)
          rw [decide_eq_true rfl] at cc
          refine cc.mono ?_
          clear cc
          rintro e w13 ⟨rfl, hd⟩
          have HRr13 := Aside0.mk (HRr.out.below hd.below)
          have HRs13 := Aside0.mk (HRs.out.below hd.below)
          have HB13 := Aside0.mk (HB12.out.trans (hd.below.mono HB12.out.size))
          clear hd
          go_wp2_with fail
          have cc := Left_any Sr r LW.length LW w13 HRr13.out
          rw [Int.sub_self] at cc
          refine cc.mono ?_
          clear cc
          rintro e w14 ⟨rfl, n14, hw14⟩
          have hb14 : Below w13.heap.size w13 w14 := by rw [hw14]; exact below_drewN (Below.refl _ _) _
          have HRs14 := Aside0.mk (HRs13.out.below hb14)
          have HB14 := Aside0.mk (HB13.out.trans (hb14.mono HB13.out.size))
          clear hw14 hb14
          go_wp2_with fail
          have cc := Left_any Ss s LB.length LB w14 HRs14.out
          rw [Int.sub_self] at cc
          refine cc.mono ?_
          clear cc
          rintro e w15 ⟨rfl, n15, hw15⟩
          have hb15 : Below w14.heap.size w14 w15 := by rw [hw15]; exact below_drewN (Below.refl _ _) _
          have HB15 := Aside0.mk (HB14.out.trans (hb15.mono HB14.out.size))
          clear hw15 hb15
          go_wp2_with fail
          refine (awake_any w15).mono ?_
          rintro e w16 ⟨rfl, hb⟩
          have HB16 := Aside0.mk (HB15.out.trans (hb.mono HB15.out.size))
          clear hb
          go_wp2_with fail
          go_ret
          exact ⟨rfl, HB16.out⟩
end Go.Proofs.Ytnpheeendbchbaa.P
