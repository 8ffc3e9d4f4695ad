/- Two readers beside each other; the walk of shawmlaw05.RiceGets. -/
import Derived.Test.YtnpheeendbchbaaHk
import Derived.Test.YtnpheeendbchbaaEa
import Derived.Deep.RegionHeld3
namespace Go.Proofs.Ytnpheeendbchbaa.P
open Go.RowKit Go.Shelf Go.Proofs.Ytnpheeendbchbaa.Bits Go.Proofs.YtnpheeendbchbaaW.PrintWords Go.Proofs.YtnpheeendbchbaaW.PrintLast Go.Proofs.YtnpheeendbchbaaW.PrintMore
set_option linter.unusedVariables false
set_option linter.unusedSimpArgs false
attribute [local go_sem ↓] Go.wp_at_zero Go.wp_at_succ

/-- A reader at p and one of the reference at q stand in the bits L at a and at b; both are younger than w0. -/
structure TR (w0 W : World) (p q : Nat) (L : List Int) (a b : Nat) : Prop where
  ex : ∃ S T : Nat → Prop, Rd W S p L a ∧ RRd W T q L b ∧ ¬ S q ∧ ¬ T p
  ne : p ≠ q
  hp : w0.heap.size ≤ p
  hq : w0.heap.size ≤ q
  low : Below w0.heap.size w0 W
theorem TR.below {w0 W W' : World} {p q a b : Nat} {L : List Int} (h : TR w0 W p q L a b) (hb : Below W.heap.size W W') : TR w0 W' p q L a b := by
  obtain ⟨S, T, h1, h2, h3, h4⟩ := h.ex
  exact ⟨⟨S, T, h1.below hb, h2.below hb, h3, h4⟩, h.ne, h.hp, h.hq, h.low.trans (hb.mono h.low.size)⟩
theorem TR.callL {w0 W : World} {p q a b : Nat} {L : List Int} {f : Nat} {args : Array Value} {E : Ending} {a' : Nat} (h : TR w0 W p q L a b) (hc : ∀ S, Rd W S p L a → Calls Try.prog f args W fun e w' => e = E ∧ Rd w' S p L a' ∧ Fr (fun k => k = p) W w') :
    Calls Try.prog f args W fun e w' => e = E ∧ TR w0 w' p q L a' b ∧ Fr (fun k => k = p) W w' := by
  obtain ⟨S, T, h1, h2, h3, h4⟩ := h.ex
  refine (hc S h1).mono ?_
  rintro e w' ⟨he, hr, hf⟩
  exact ⟨he, ⟨⟨S, T, hr, h2.fr hf (fun o => h.ne o.symm) (fun k hk o => h4 (o ▸ hk)), h3, h4⟩, h.ne, h.hp, h.hq, h.low.trans (hf.to_below h.low.size (fun k hk => by rw [hk]; exact h.hp))⟩, hf⟩
theorem TR.callR {w0 W : World} {p q a b : Nat} {L : List Int} {f : Nat} {args : Array Value} {E : Ending} {b' : Nat} (h : TR w0 W p q L a b) (hc : ∀ S, RRd W S q L b → Calls Try.prog f args W fun e w' => e = E ∧ RRd w' S q L b' ∧ Fr (fun k => k = q) W w') :
    Calls Try.prog f args W fun e w' => e = E ∧ TR w0 w' p q L a b' ∧ Fr (fun k => k = q) W w' := by
  obtain ⟨S, T, h1, h2, h3, h4⟩ := h.ex
  refine (hc T h2).mono ?_
  rintro e w' ⟨he, hr, hf⟩
  exact ⟨he, ⟨⟨S, T, h1.fr hf (fun o => h.ne o) (fun k hk o => h3 (o ▸ hk)), hr, h3, h4⟩, h.ne, h.hp, h.hq, h.low.trans (hf.to_below h.low.size (fun k hk => by rw [hk]; exact h.hq))⟩, hf⟩
theorem TR.atL {w0 W : World} {p q a b : Nat} {L : List Int} (h : TR w0 W p q L a b) : Calls Try.prog 23 #[.pointer (some ⟨p, 0, none⟩)] W fun e w' => e = .returned (.int .i64 (a : Int)) ∧ w' = W := by
  obtain ⟨S, T, h1, _⟩ := h.ex
  exact At_any S p a L W h1
theorem TR.atR {w0 W : World} {p q a b : Nat} {L : List Int} (h : TR w0 W p q L a b) : Calls Try.prog 24 #[.pointer (some ⟨q, 0, none⟩)] W fun e w' => e = .returned (.int .i64 (b : Int)) ∧ w' = W := by
  obtain ⟨S, T, _, h2, _⟩ := h.ex
  exact RefAt_any T q b L W h2
theorem TR.bits {w0 W : World} {p q a b : Nat} {L : List Int} (h : TR w0 W p q L a b) : is01 L := by
  obtain ⟨S, T, h1, _⟩ := h.ex
  exact h1.bits
abbrev nnBox (x y : Int) : Obj := .cells #[.int .i64 x, .int .i64 y] 28 (0, 0)
set_option maxHeartbeats 8000000 in
set_option maxRecDepth 100000 in
theorem RiceGets_any (A : Option Addr) (c : Nat) (B : List Int) (n0 n1 k : Int) (w : World) (hC : Kd.C (Kd.int .u8) w A B.length B) (h8 : is8 B) (hB : B.length ≤ 9000000000000000000) (hc : B.length ≤ c) :
    Calls Try.prog 4 #[.slice A B.length c, .agg #[.int .i64 n0, .int .i64 n1], .int .i64 k] w fun e w' => e = .returned (.bool true) ∧ Below w.heap.size w w' := by
  obtain ⟨w1, hw1⟩ : ∃ w1, w1 = w.alloc (nnBox n0 n1) := ⟨_, rfl⟩
  obtain ⟨g, hg⟩ : ∃ g, g = w.heap.size := ⟨_, rfl⟩
  have hb1 : Below w.heap.size w w1 := by rw [hw1]; exact below_alloc (Below.refl _ _) _
  have hk1 : w1.heap[g]? = some (nnBox n0 n1) := by rw [hw1, hg]; exact World.alloc_heap_new w _
  have HC := Aside0.mk hC
  have H8 := Aside0.mk h8
  have HB1 := Aside0.mk hb1
  have HK1 := Aside0.mk hk1
  have HG := Aside0.mk hg
  have HE : Aside0 (w.alloc (.cells #[.int .i64 n0, .int .i64 n1] 28) = w1) := ⟨hw1.symm⟩
  clear hC h8 hw1 hg hb1 hk1
  by_cases hbig : 400 < B.length
  · have d1 : decide ((400 : Int) < (B.length : Int)) = true := by simp; omega
    clear hbig
    go_enter Try.func4, Try.ntmps4
    go_wp2_with fail
    rw [HE.out]
    refine (awake_any w1).mono ?_
    rintro e w2 ⟨rfl, hb⟩
    have HB2 := Aside0.mk (HB1.out.trans (hb.mono HB1.out.size))
    clear hb
    go_wp2_with fail
    go_ret
    exact ⟨rfl, HB2.out⟩
  have d1 : decide ((400 : Int) < (B.length : Int)) = false := by simp; omega
  have HOP := Aside0.mk (fun W h => Open_any A c B n0 W h H8.out (by omega) hc)
  have HRO := Aside0.mk (fun W h => RefOpen_any A c B n0 W h H8.out (by omega))
  unfold OpenPost at HOP
  unfold ROpenPost at HRO
  have c0 : (w.alloc (.cells #[.int .i64 n0, .int .i64 n1] 28)).cell? ⟨w.heap.size, 0, none⟩ = some (.int .i64 n0) := by rw [HE.out, ← HG.out, cell_of_row w1 g 0 _ _ (0, 0) HK1.out]; rfl
  by_cases he : openE B n0 = 0
  case neg =>
    have hne : (openE B n0 != 0) = true := by simpa using he
    simp only [he, if_neg, not_false_eq_true] at HOP HRO
    have q1 : (openE B n0 != openE B n0) = false := by simp
    have q2 : (openE B n0 == openE B n0) = true := by simp
    generalize openE B n0 = er at *
    clear he
    go_enter Try.func4, Try.ntmps4
    go_wp2_with fail
    rw [HE.out, ← HG.out]
    refine (HOP.out w1 (Kd.C_below HC.out HB1.out)).mono ?_
    rintro e w2 ⟨rfl, hw⟩
    obtain rfl := hw.symm
    have c1 : w1.cell? ⟨g, 0, none⟩ = some (.int .i64 n0) := by rw [cell_of_row w1 g 0 _ _ (0, 0) HK1.out]; rfl
    go_wp2_with fail
    refine (HRO.out w1 (Kd.C_below HC.out HB1.out)).mono ?_
    rintro e w2 ⟨rfl, hw⟩
    obtain rfl := hw.symm
    go_wp2_with fail
    refine (awake_any w1).mono ?_
    rintro e w2 ⟨rfl, hb⟩
    have HB2 := Aside0.mk (HB1.out.trans (hb.mono HB1.out.size))
    clear hb
    go_wp2_with fail
    go_ret
    exact ⟨rfl, HB2.out⟩
  simp only [he, if_pos] at HOP HRO
  go_enter Try.func4, Try.ntmps4
  go_wp2_with fail
  rw [HE.out, ← HG.out]
  refine (HOP.out w1 (Kd.C_below HC.out HB1.out)).mono ?_
  rintro e w2 ⟨p, S, rfl, hR, hp, hS, hb⟩
  have hk2 := blk_fr HK1.out (Fr.below hb (fun _ => False)) (fun h => h)
  have c1 : w2.cell? ⟨g, 0, none⟩ = some (.int .i64 n0) := by rw [cell_of_row w2 g 0 _ _ (0, 0) hk2]; rfl
  have HB2 := Aside0.mk (HB1.out.trans (hb.mono HB1.out.size))
  have HR2 := Aside0.mk hR
  have HS2 : Aside0 (∀ k, S k → w.heap.size ≤ k) := ⟨fun k h => Nat.le_trans HB1.out.size (hS k h)⟩
  have HP2 : Aside0 (w.heap.size ≤ p) := ⟨Nat.le_trans HB1.out.size hp⟩
  have HGP : Aside0 (g < p) := ⟨Nat.lt_of_lt_of_le (lt_of_block HK1.out) hp⟩
  have HK2 := Aside0.mk hk2
  clear hR hp hS hb hk2 c0
  go_wp2_with fail
  clear c1
  refine (HRO.out w2 (Kd.C_below HC.out HB2.out)).mono ?_
  rintro e w3 ⟨q, T, rfl, hR, hq, hT, hb⟩
  have hk3 := blk_fr HK2.out (Fr.below hb (fun _ => False)) (fun h => h)
  obtain ⟨L, hL⟩ : ∃ L, L = ofB B n0.toNat := ⟨_, rfl⟩
  have HTR : Aside0 (TR w w3 p q L 0 0) := ⟨by
    rw [hL]
    have hpl := HR2.out.p_lt
    exact ⟨⟨S, T, HR2.out.below hb, hR, fun o => by have := HR2.out.lt q o; omega, fun o => by have := hT p o; omega⟩, by omega, HP2.out, Nat.le_trans HB2.out.size hq, HB2.out.trans (hb.mono HB2.out.size)⟩⟩
  have HGQ : Aside0 (g < q) := ⟨by have := lt_of_block HK2.out; omega⟩
  have HK3 := Aside0.mk hk3
  have k1 : w3.cell? ⟨g, 1, none⟩ = some (.int .i64 n1) := by rw [cell_of_row w3 g 1 _ _ (0, 0) hk3]; rfl
  have HSL := Aside0.mk (fun W (h : TR w W p q L 0 0) => h.callL (fun S hS => Seek_any S p 0 L n1 W hS))
  have HSR := Aside0.mk (fun W a (h : TR w W p q L a 0) => h.callR (fun S hS => RefSeek_any S q 0 L n1 W hS))
  generalize rSeek L 0 n1 = sk at *
  obtain ⟨es, a0⟩ := sk
  dsimp only at HSL HSR
  have q3 : (es != es) = false := by simp
  clear hR hq hT hb hL hk3 HR2 HS2 HP2 HOP HRO HK2
  go_wp2_with fail
  go_region_held3 (fun w' => w'.cell? ⟨g, 1, none⟩ = some (.int .i64 n1))
    (first | assumption | go_keep)
    (first
      | (go_at_call 19; refine (HSL.out _ (HTR.out.below (below_drew (Below.refl _ _)))).mono ?_; rintro e w4 ⟨rfl, h4, hf⟩; have HT4 := Aside0.mk h4; have hk4 := blk_fr (show w3.drew.heap[g]? = _ from HK3.out) hf (by have := HGP.out; omega); have HK4 := Aside0.mk hk4; have k4 : w4.cell? ⟨g, 1, none⟩ = some (.int .i64 n1) := (by rw [cell_of_row w4 g 1 _ _ (0, 0) hk4]; rfl); clear h4 hf hk4)
      | (go_at_call 20; refine (HSR.out _ _ HT4.out).mono ?_; rintro e w5 ⟨rfl, h5, hf⟩; have HT5 := Aside0.mk h5; have hk5 := blk_fr HK4.out hf (by have := HGQ.out; omega); have k5 : w5.cell? ⟨g, 1, none⟩ = some (.int .i64 n1) := (by rw [cell_of_row w5 g 1 _ _ (0, 0) hk5]; rfl); clear h5 hf hk5))
  all_goals
    go_wp2_with fail
    go_loopw [57] (fun i wr => ∃ (j a : Nat), i = .int .i64 (j : Int) ∧ j ≤ 60 ∧ Aside0 (TR w wr p q L a a)) (fun i _ => 60 - (intOf i).toNat)
    case atStart => exact ⟨0, a0, rfl, Nat.zero_le _, HT5⟩
    case round =>
      obtain ⟨j, a, rfl, hj, HTT⟩ := hrel
      by_cases hlt : j < 60
      · have d2 : decide ((j : Int) < 60) = true := by simp; omega
        have h01 := HTT.out.bits
        have HGL := Aside0.mk (fun W (h : TR w W p q L a a) => h.callL (fun S hS => Get_any5 S p a L k W hS))
        have HGR := Aside0.mk (fun W b (h : TR w W p q L b a) => h.callR (fun S hS => RGet_any5 S q a L k W hS h01))
        generalize fGet L a k = r at *
        obtain ⟨x, er, a'⟩ := r
        dsimp only at HGL HGR
        have m1 : (x != x) = false := by simp
        have m2 : (er != er) = false := by simp
        have m3 : ((a' : Int) != (a' : Int)) = false := by simp
        obtain ⟨b5, hb5⟩ : ∃ b, b = (er != 0) := ⟨_, rfl⟩
        have q5 : (er != 0) = b5 := hb5.symm
        clear h01 hb5
        cases b5
        all_goals
          go_wp2_with fail
          refine (HGL.out wr HTT.out).mono ?_
          rintro e w6 ⟨rfl, h6, _⟩
          have HT6 := Aside0.mk h6
          clear h6
          go_wp2_with fail
          refine (HGR.out w6 _ HT6.out).mono ?_
          rintro e w7 ⟨rfl, h7, _⟩
          have HT7 := Aside0.mk h7
          clear h7
          go_wp2_with fail
          refine HT7.out.atL.mono ?_
          rintro e w8 ⟨rfl, hw⟩
          obtain rfl := hw.symm
          go_wp2_with fail
          refine HT7.out.atR.mono ?_
          rintro e w8 ⟨rfl, hw⟩
          obtain rfl := hw.symm
        · go_wp2_with fail
          go_roundw
          case rel => exact ⟨j + 1, a', by go_num, by omega, HT7⟩
          case measure => simp [intOf]; omega
        · skip
          go_wp2_with fail
          refine (GetNil_any 0 w7).mono ?_
          rintro e w20 ⟨rfl, hb⟩
          have HT20 := Aside0.mk (HT7.out.below hb)
          clear hb
          go_wp2_with fail
          refine (awake_any w20).mono ?_
          rintro e w21 ⟨rfl, hb⟩
          have HB21 := Aside0.mk (HT20.out.low.trans (hb.mono HT20.out.low.size))
          clear hb
          go_wp2_with fail
          go_ret
          exact ⟨rfl, HB21.out⟩
      · obtain rfl : j = 60 := by omega
        go_wp2_with fail
        refine (GetNil_any 0 wr).mono ?_
        rintro e w20 ⟨rfl, hb⟩
        have HT20 := Aside0.mk (HTT.out.below hb)
        clear hb
        go_wp2_with fail
        refine (awake_any w20).mono ?_
        rintro e w21 ⟨rfl, hb⟩
        have HB21 := Aside0.mk (HT20.out.low.trans (hb.mono HT20.out.low.size))
        clear hb
        go_wp2_with fail
        go_ret
        exact ⟨rfl, HB21.out⟩
section
open Go.ChangeShapes Go.WideShapes Go.ChangeAt Go.RowKit Go.Deep
variable {H : Type} {enc : TypeId × Value → H} {W : World} {base : Nat} {spare : Nat → Bool} {held : Bool}
set_option maxRecDepth 100000 in
/-- Two ints inside an argument. -/
theorem open_nn {n : Nat} {cs : List Value} {y : DataW H × List MemPlace} (h : DataW.trod enc Try.prog W base spare held n 28 cs = some y) :
    ∃ a b : Int, cs = [.int .i64 a, .int .i64 b] ∧ (-9223372036854775808 ≤ a ∧ a ≤ 9223372036854775807) ∧ (-9223372036854775808 ≤ b ∧ b ≤ 9223372036854775807) := by
  obtain ⟨xs, m, rfl, hy, hlen, hxl, hf⟩ := DataW.trod_array Try.underlying28 h
  have e1 : Try.prog.cellsOf 3 = 1 := by kernel_rfl
  have hcl : cs.length = 2 := hlen.trans (by kernel_rfl)
  match cs, hcl with
  | [c0, c1], _ =>
    match xs, hxl with
    | [x0, x1], _ =>
      have f0 := hf 0 (by decide)
      have f1 := hf 1 (by decide)
      simp only [e1, Nat.zero_mul, Nat.one_mul, List.drop_zero, List.drop_succ_cons, List.take_succ_cons, List.take_zero, List.getElem?_cons_zero, List.getElem?_cons_succ] at f0 f1
      obtain ⟨a, ha, _, haw⟩ := DataW.trod_int Try.underlying3 f0
      obtain ⟨b, hb, _, hbw⟩ := DataW.trod_int Try.underlying3 f1
      cases ha
      cases hb
      exact ⟨a, b, rfl, wf64 haw, wf64 hbw⟩
set_option maxRecDepth 100000 in
theorem okWide_array {P : Program} {w : World} {r : Reach} {base : Nat} {t : TypeId} {v : Value} {n : Nat} {e : TypeId} (ht : P.underlying t = some (.array n e)) (h : Value.okWide P w r base t v) : ∃ cs, v = .agg cs ∧ cs.size = P.cellsOf t := by
  simp only [Value.okWide, ht] at h
  obtain ⟨cs, h1, h2, _⟩ := h
  exact ⟨cs, h1, h2⟩
set_option maxRecDepth 100000 in

end
end Go.Proofs.Ytnpheeendbchbaa.P
