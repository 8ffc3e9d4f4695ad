/- The walk of shawmlaw22.FrameFinds. -/
import Derived.Test.YtnaklnehichhpaaDoorRj
namespace Go.Proofs.YtnaklnehichhpaaDoor.P
open Go.RowKit Go.Shelf Go.Proofs.YtnaklnehichhpaaDoor.Bits Go.Proofs.YtnaklnehichhpaaDoorW.PrintWords Go.Proofs.YtnaklnehichhpaaDoorW.PrintLast Go.Proofs.YtnaklnehichhpaaDoorW.PrintMore
set_option linter.unusedVariables false
set_option linter.unusedSimpArgs false

theorem lostF_len (B : List Int) : (lostF B).length ≤ B.length + 1 := by
  have h1 := lostL_le (allF B)
  have h2 := allF_len B
  unfold lostF
  split
  · rw [List.length_append]; simp; omega
  · omega
set_option maxHeartbeats 4000000 in
set_option maxRecDepth 100000 in
theorem FrameFinds_any (A : Option Addr) (c : Nat) (B : List Int) (at_ : Int) (w : World) (hg : HG w)
    (hC : Kd.C (Kd.int .u8) w A B.length B) (h8 : is8 B) (hc : B.length ≤ c) (hl : B.length ≤ 9000000000000000000) :
    Calls Tryd.prog 5 #[.slice A B.length c, .int .i64 at_] w fun e w' => e = .returned (.bool true) ∧ Below w.heap.size w w' := by
  by_cases hbig : 5000 < B.length
  · have q1 : decide ((5000 : Int) < (B.length : Int)) = true := by simp; omega
    have HG1 := Aside0.mk hg
    clear hC h8 hg
    go_enter Tryd.func5, Tryd.ntmps5
    go_wp2_with fail
    refine (awake_any _ HG1.out).mono ?_
    rintro e w9 ⟨rfl, hb⟩
    go_wp2_with fail
    go_ret
    exact ⟨rfl, hb⟩
  have q1 : decide ((5000 : Int) < (B.length : Int)) = false := by simp; omega
  have HF := Aside0.mk (Find_any A c B at_ w hC h8 (by omega) hc hg)
  have HRF := Aside0.mk (fun W hW => RFind_any A c B at_ W hW h8 (by omega) hc)
  have HA := Aside0.mk (fun W hW hG => All_any A c B W hW h8 (by omega) hc hG)
  have HRA := Aside0.mk (fun W hW => RAll_any A c B W hW h8 (by omega) hc)
  have HL := Aside0.mk (fun W hW hG => Lost_any A c B W hW h8 (by omega) hc hG)
  have HRL := Aside0.mk (fun W hW => RLost_any A c B W hW h8 (by omega) hc)
  have hpl : (placesF B).length ≤ 1000000000 := by
    have := allF_len B
    unfold placesF
    rw [List.length_map]
    omega
  have hll : (lostF B).length ≤ 1000000000 := by have := lostF_len B; omega
  generalize fFind B at_ = r at *
  obtain ⟨x, y⟩ := r
  generalize placesF B = pl at *
  generalize lostF B = ll at *
  have hxx : (x == x) = true := beq_self_eq_true x
  have hyy : (y == y) = true := beq_self_eq_true y
  have HC := Aside0.mk hC
  have HG0 := Aside0.mk hg
  clear hC h8 hg
  go_enter Tryd.func5, Tryd.ntmps5
  go_wp2_with fail
  refine HF.out.mono ?_
  rintro e w1 ⟨rfl, hb⟩
  have HB1 := Aside0.mk hb
  clear hb
  go_wp2_with fail
  refine (HRF.out w1 (Kd.C_below HC.out HB1.out)).mono ?_
  rintro e w2 ⟨rfl, hb⟩
  have HB2 := Aside0.mk (HB1.out.trans (hb.mono HB1.out.size))
  clear hb HB1
  go_wp2_with fail
  refine (HA.out w2 (Kd.C_below HC.out HB2.out) (HG0.out.below HB2.out)).mono ?_
  rintro e w3 ⟨v3, rfl, hr, hb⟩
  obtain ⟨A3, c3, rfl, hc3, hC3⟩ := RowV.reads hr (by omega)
  have HB3 := Aside0.mk (HB2.out.trans (hb.mono HB2.out.size))
  have HC3 := Aside0.mk hC3
  clear hr hb hC3 hc3 HB2
  go_wp2_with fail
  refine (HRA.out w3 (Kd.C_below HC.out HB3.out)).mono ?_
  rintro e w4 ⟨v4, rfl, hr, hb⟩
  obtain ⟨A4, c4, rfl, hc4, hC4⟩ := RowV.reads hr (by omega)
  have HB4 := Aside0.mk (HB3.out.trans (hb.mono HB3.out.size))
  have HC34 := Aside0.mk (Kd.C_below HC3.out hb)
  have HC4 := Aside0.mk hC4
  clear hr hb hC4 hc4 HB3 HC3
  go_wp2_with fail
  have cc := Ints_any A3 A4 pl.length pl.length c3 c4 pl pl w4 HC34.out HC4.out hpl hpl
  rw [decide_eq_true rfl] at cc
  refine cc.mono ?_
  clear cc
  rintro e w5 ⟨rfl, hd⟩
  have HB5 := Aside0.mk (HB4.out.trans (hd.below.mono HB4.out.size))
  clear hd HB4 HC34 HC4
  go_wp2_with fail
  refine (HL.out w5 (Kd.C_below HC.out HB5.out) (HG0.out.below HB5.out)).mono ?_
  rintro e w6 ⟨v6, rfl, hr, hb⟩
  obtain ⟨A6, c6, rfl, hc6, hC6⟩ := RowV.pairs hr
  have HB6 := Aside0.mk (HB5.out.trans (hb.mono HB5.out.size))
  have HC6 := Aside0.mk hC6
  clear hr hb hC6 hc6 HB5
  go_wp2_with fail
  refine (HRL.out w6 (Kd.C_below HC.out HB6.out)).mono ?_
  rintro e w7 ⟨v7, rfl, hr, hb⟩
  obtain ⟨A7, c7, rfl, hc7, hC7⟩ := RowV.pairs hr
  have HB7 := Aside0.mk (HB6.out.trans (hb.mono HB6.out.size))
  have HC67 := Aside0.mk (HC6.out.below hb)
  have HC7 := Aside0.mk hC7
  clear hr hb hC7 hc7 HB6 HC6
  go_wp2_with fail
  refine (pairs_any A6 A7 c6 c7 ll w7 HC67.out HC7.out hll).mono ?_
  rintro e w8 ⟨rfl, hd⟩
  have HB8 := Aside0.mk (HB7.out.trans (hd.below.mono HB7.out.size))
  clear hd HB7 HC67 HC7
  go_wp2_with fail
  refine (awake_any _ (HG0.out.below HB8.out)).mono ?_
  rintro e w9 ⟨rfl, hb⟩
  have HB9 := Aside0.mk (HB8.out.trans (hb.mono HB8.out.size))
  clear hb HB8
  go_wp2_with fail
  go_ret
  exact ⟨rfl, HB9.out⟩
end Go.Proofs.YtnaklnehichhpaaDoor.P
