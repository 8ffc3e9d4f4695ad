/- The walk of shawmlaw22.FrameDamage. -/
import Derived.Test.YtnaklnehichhpaaDoorKt
import Derived.Test.YtnaklnehichhpaaDoorKr
namespace Go.Proofs.YtnaklnehichhpaaDoor.P
open Go.RowKit Go.Shelf Go.Proofs.YtnaklnehichhpaaDoor.Bits Go.Proofs.YtnaklnehichhpaaDoorW.PrintWords Go.Proofs.YtnaklnehichhpaaDoorW.PrintLast Go.Proofs.YtnaklnehichhpaaDoorW.PrintMore
set_option linter.unusedVariables false
set_option linter.unusedSimpArgs false
theorem and1_u16 (x : Int) (h : 0 ≤ x ∧ x < 65536) : Go.bits .and .u16 x 1 = x % 2 := by
  show IntKind.u16.wrap ((BitVec.ofInt 16 x &&& BitVec.ofInt 16 1).toNat : Int) = _
  have e : (BitVec.ofInt 16 (1 : Int)).toNat = 1 := by decide
  rw [BitVec.toNat_and, e, Nat.and_one_is_mod, BitVec.toNat_ofInt]
  have : IntKind.u16.wrap (((x % (2 ^ 16 : Nat)).toNat % 2 : Nat) : Int) = (((x % (2 ^ 16 : Nat)).toNat % 2 : Nat) : Int) := IntWalk.u16_in _ (by omega)
  rw [this]
  omega
theorem own_addr {S : Nat → Prop} {w : World} {v : Value} {B : List Int} (h : RB S w v B) (hl : 0 < B.length) : ∃ g c, v = .slice (some ⟨g, 0, none⟩) B.length c ∧ S g := by
  have h1 := Kd.own_of_R h
  have hle : (encs (Value.int .u8) B).length = B.length := by simp [encs]
  rcases h1.2 with ⟨rfl, hn⟩ | ⟨g, cap, cur, rfl, _⟩
  · omega
  · exact ⟨g, cap, rfl, h.1 g (by simp [Value.ownBlock])⟩
section
variable {H : Type} {enc : TypeId × Value → H} {W : World} {base : Nat} {spare : Nat → Bool} {held : Bool}
theorem wf16 {x : Int} (h : (Lit.int .u16 x).wf = true) : 0 ≤ x ∧ x < 65536 := by
  unfold Lit.wf at h
  rw [Bool.and_eq_true, decide_eq_true_eq, decide_eq_true_eq] at h
  have h1 : IntKind.u16.min = 0 := by decide
  have h2 : IntKind.u16.max = 65535 := by decide
  omega
set_option maxRecDepth 100000 in
/-- Two numbers of 16 bits inside an argument. -/
theorem open_u16s {n : Nat} {cs : List Value} {y : DataW H × List MemPlace} (h : DataW.trod enc Tryd.prog W base spare held n 46 cs = some y) :
    ∃ a b : Nat, cs = [.int .u16 (a : Int), .int .u16 (b : Int)] ∧ a < 65536 ∧ b < 65536 := by
  obtain ⟨xs, m, rfl, hy, hlen, hxl, hf⟩ := DataW.trod_array Tryd.underlying46 h
  have e1 : Tryd.prog.cellsOf 45 = 1 := by kernel_rfl
  have hcl : cs.length = 2 := hlen.trans (by kernel_rfl)
  match cs, hcl with
  | [c0, c1], _ =>
    match xs, hxl with
    | [x0, x1], _ =>
      have f0 := hf 0 (by decide)
      have f1 := hf 1 (by decide)
      simp only [e1, Nat.zero_mul, Nat.one_mul, List.drop_zero, List.drop_succ_cons, List.take_succ_cons, List.take_zero, List.getElem?_cons_zero, List.getElem?_cons_succ] at f0 f1
      obtain ⟨z0, h0, _, hw0⟩ := DataW.trod_int Tryd.underlying45 f0
      obtain ⟨z1, h1, _, hw1⟩ := DataW.trod_int Tryd.underlying45 f1
      cases h0
      cases h1
      obtain ⟨a1, a2⟩ := wf16 hw0
      obtain ⟨b1, b2⟩ := wf16 hw1
      obtain ⟨a, rfl⟩ : ∃ a : Nat, z0 = a := ⟨z0.toNat, by omega⟩
      obtain ⟨b, rfl⟩ : ∃ b : Nat, z1 = b := ⟨z1.toNat, by omega⟩
      exact ⟨a, b, rfl, by omega, by omega⟩
end
/-- Read of one's own bytes at 0, told by whether there is a frame. -/
theorem Read_own {S : Nat → Prop} (g cv : Nat) (Y : List Int) (w : World) (hR : RB S w (.slice (some ⟨g, 0, none⟩) Y.length cv) Y) (h8 : is8 Y) (hBl : Y.length ≤ 1000000000) (hg : HG w) :
    Calls Tryd.prog 16 #[.slice (some ⟨g, 0, none⟩) Y.length cv, .int .i64 0] w fun e w' => ∃ (x0 : Int) (x1 : Bool) (x2 x3 x4 x5 x6 : Int) (v : Value) (fe : Int), e = .returned (.tuple #[.agg #[.int .i64 x0, .bool x1, .int .i64 x2, .int .i64 x3, .int .i64 x4, .int .i64 x5, .int .i64 x6], v, .int .i64 fe]) ∧ (fe != 0) = !decide ((fReadB Y).2.2 = 0) ∧ Below w.heap.size w w' := by
  obtain ⟨A, c, e, hc, hC⟩ := Kd.R_reads hR
  injection e with e1 e2 e3
  subst e1
  subst e3
  refine (Read_any _ cv Y 0 w hC h8 hBl hc hg).mono ?_
  rintro e w' ⟨v, S', rfl, _, _, hb⟩
  have e0 : fRead Y 0 = fReadB Y := by have := fRead_nat Y 0 (Nat.zero_le _); simpa using this
  rw [e0]
  exact ⟨_, _, _, _, _, _, _, v, _, rfl, by rw [Bool.eq_iff_iff]; simp, hb⟩
abbrev u16Obj (a b : Nat) : Obj := .cells #[.int .u16 (a : Int), .int .u16 (b : Int)] 46 (0, 0)
attribute [local go_sem ↓] Go.wp_at_zero Go.wp_at_succ
set_option maxHeartbeats 4000000 in
set_option maxRecDepth 100000 in
theorem FrameDamage_any (h : HD) (A : Option Addr) (c : Nat) (body : List Int) (n0 mask : Nat) (w : World) (hg : HG w)
    (hC : Kd.C (Kd.int .u8) w A body.length body) (h8 : is8 body) (hl : body.length ≤ 9000000000000000000) (hc : body.length ≤ c) (hn0 : n0 < 65536) (hmask : mask < 65536) :
    Calls Tryd.prog 7 #[h.val, .slice A body.length c, .agg #[.int .u16 (n0 : Int), .int .u16 (mask : Int)]] w fun e w' => e = .returned (.bool true) ∧ Below w.heap.size w w' := by
  obtain ⟨w2, hw2⟩ : ∃ w2, w2 = (w.alloc (hdObj h)).alloc (u16Obj n0 mask) := ⟨_, rfl⟩
  obtain ⟨p, hp⟩ : ∃ p, p = w.heap.size := ⟨_, rfl⟩
  have hb2 : Below w.heap.size w w2 := by rw [hw2]; exact below_alloc (below_alloc (Below.refl _ _) _) _
  have HQ2 : Aside0 (w2.heap[p + 1]? = some (u16Obj n0 mask)) := ⟨by rw [hw2, hp]; exact alloc2_new w _ _⟩
  have HW2 := Aside0.mk hw2
  have HP := Aside0.mk hp
  have HB2 := Aside0.mk hb2
  have HC2 := Aside0.mk (Kd.C_below hC hb2)
  have HG2 := Aside0.mk (hg.below hb2)
  have H8 := Aside0.mk h8
  have hwr := fun W hW hG => Write_any h A c body W hW h8 hG (by omega)
  have HFO := Aside0.mk (fun e => @fWrite_ok h body e)
  have HDM := Aside0.mk (fun a (ho : OkH h) hq => damage h body a mask ho h8 hq)
  have HWL := Aside0.mk (wFrame_length h body)
  have HW8 := Aside0.mk (wFrame_8 h h8)
  generalize fWrite h body = fw at *
  obtain ⟨fb, fe⟩ := fw
  have HWR := Aside0.mk hwr
  clear hg hC h8 hw2 hp hb2 hwr
  by_cases hbig : 2100 < body.length
  · have q1 : decide ((2100 : Int) < (body.length : Int)) = true := by simp; omega
    obtain ⟨num, lossy, rate, ch, kind, count, back⟩ := h
    unfold HD.val at *
    dsimp only at *
    have HE : Aside0 ((w.alloc (.cells #[.int .i64 num, .bool lossy, .int .i64 rate, .int .i64 ch, .int .i64 kind, .int .i64 count, .int .i64 back] 23)).alloc (.cells #[.int .u16 (n0 : Int), .int .u16 (mask : Int)] 46) = w2) := ⟨HW2.out.symm⟩
    go_enter Tryd.func7, Tryd.ntmps7
    go_wp2_with fail
    rw [HE.out]
    refine (awake_any _ HG2.out).mono ?_
    rintro e w9 ⟨rfl, hb⟩
    have HB9 := Aside0.mk (HB2.out.trans (hb.mono HB2.out.size))
    clear hb
    go_wp2_with fail
    go_ret
    exact ⟨rfl, HB9.out⟩
  have q1 : decide ((2100 : Int) < (body.length : Int)) = false := by simp; omega
  by_cases hfe : fe = 0
  case neg =>
    have q4 : (fe != 0) = true := by simp [hfe]
    clear HFO hfe HDM HWL HW8
    obtain ⟨num, lossy, rate, ch, kind, count, back⟩ := h
    unfold HD.val at *
    dsimp only at *
    have HE : Aside0 ((w.alloc (.cells #[.int .i64 num, .bool lossy, .int .i64 rate, .int .i64 ch, .int .i64 kind, .int .i64 count, .int .i64 back] 23)).alloc (.cells #[.int .u16 (n0 : Int), .int .u16 (mask : Int)] 46) = w2) := ⟨HW2.out.symm⟩
    go_enter Tryd.func7, Tryd.ntmps7
    go_wp2_with fail
    rw [HE.out]
    refine (HWR.out w2 HC2.out HG2.out).mono ?_
    rintro e w3 ⟨v3, S3, rfl, hr, hs3, hb⟩
    have HB3 := Aside0.mk (HB2.out.trans (hb.mono HB2.out.size))
    have HG3 := Aside0.mk (HG2.out.below hb)
    clear hr hs3 hb
    go_wp2_with fail
    refine (awake_any _ HG3.out).mono ?_
    rintro e w9 ⟨rfl, hb⟩
    have HB9 := Aside0.mk (HB3.out.trans (hb.mono HB3.out.size))
    clear hb
    go_wp2_with fail
    go_ret
    exact ⟨rfl, HB9.out⟩
  subst hfe
  obtain ⟨hok, hl20, hfb⟩ := HFO.out rfl
  dsimp only at hfb
  subst hfb
  have HDM2 := Aside0.mk (fun a => HDM.out a hok hl20)
  clear hok hl20 HDM HFO
  generalize wFrame h body = fb at *
  generalize hnb : fb.length = nb at *
  obtain ⟨a, ha⟩ : ∃ a, a = n0 % (8 * nb) := ⟨_, rfl⟩
  have hab : a < 8 * nb := by rw [ha]; have hx : nb = 9 + body.length := HWL.out; exact Nat.mod_lt _ (by omega)
  have hnb9 : 9 ≤ nb ∧ nb ≤ 3000 := by have hx : nb = 9 + body.length := HWL.out; omega
  have hrem : (n0 : Int) % (8 * (nb : Int)) = (a : Int) := by rw [ha]; norm_cast
  have HDA := Aside0.mk (HDM2.out a)
  have q2 : decide ((nb : Int) < 9) = false := by simp; omega
  have q3 : decide (nb < 9) = false := by simp; omega
  have HNB := Aside0.mk hnb
  clear HDM2 ha HWL hnb
  obtain ⟨num, lossy, rate, ch, kind, count, back⟩ := h
  unfold HD.val at *
  dsimp only at *
  have HE : Aside0 ((w.alloc (.cells #[.int .i64 num, .bool lossy, .int .i64 rate, .int .i64 ch, .int .i64 kind, .int .i64 count, .int .i64 back] 23)).alloc (.cells #[.int .u16 (n0 : Int), .int .u16 (mask : Int)] 46) = w2) := ⟨HW2.out.symm⟩
  go_enter Tryd.func7, Tryd.ntmps7
  go_wp2_with fail
  rw [HE.out, ← HP.out]
  refine (HWR.out w2 HC2.out HG2.out).mono ?_
  rintro e w3 ⟨v3, S3, rfl, hr, hs3, hb⟩
  obtain ⟨g, cv, hv, hgS⟩ := own_addr hr (by rw [HNB.out]; omega)
  rw [HNB.out] at hv
  subst hv
  have HB3 := Aside0.mk hb
  have hq3 := blk_fr HQ2.out (Fr.below hb (fun _ => False)) (fun h => h)
  have z0 : w3.cell? ⟨p + 1, 0, none⟩ = some (.int .u16 (n0 : Int)) := by rw [cell_of_row w3 _ _ _ _ _ hq3]; rfl
  have HR3 := Aside0.mk hr
  have HGS : Aside0 (w2.heap.size ≤ g) := ⟨hs3 g hgS⟩
  clear hr hs3 hb hq3 hgS HWR HC2 H8 HE HW2
  go_wp2_with fail
  rw [hrem]
  clear hrem
  go_loopw [39, 10] (fun i s wr => ∃ k : Nat, i = .int .i64 (k : Int) ∧ s = .bool (dm a mask fb k).2 ∧ k ≤ 16 ∧ Aside0 (RB S3 wr (.slice (some ⟨g, 0, none⟩) nb cv) (dm a mask fb k).1) ∧ Aside0 (Below w2.heap.size w2 wr)) (fun i _ _ => 16 - (intOf i).toNat)
  case atStart => exact ⟨0, rfl, rfl, by omega, HR3, HB3⟩
  case round =>
    obtain ⟨k, rfl, rfl, hk, HR, HB⟩ := hrel
    by_cases hlt : k < 16
    · have hdm : 0 ≤ (mask : Int) / 2 ^ k ∧ (mask : Int) / 2 ^ k < 65536 := ⟨Int.ediv_nonneg (by omega) (Int.le_of_lt (Int.pow_pos (by omega))), by have := Int.ediv_le_self (a := (mask : Int)) (2 ^ k) (by omega); omega⟩
      have e1 := and1_u16 ((mask : Int) / 2 ^ k) hdm
      have e2 : (mask : Int) / 2 ^ k % 2 = ((mask / 2 ^ k % 2 : Nat) : Int) := by norm_cast
      rw [e2] at e1
      have hqr := blk_fr HQ2.out (Fr.below HB.out (fun _ => False)) (fun h => h)
      have z1 : wr.cell? ⟨p + 1, 1, none⟩ = some (.int .u16 (mask : Int)) := by rw [cell_of_row wr _ _ _ _ _ hqr]; rfl
      clear hqr
      by_cases hz : mask / 2 ^ k % 2 = 0
      · have HM : Aside0 (dm a mask fb (k + 1) = dm a mask fb k) := ⟨dm_miss (fun q => by have := q.1; omega)⟩
        have e1' : Go.bits .and .u16 ((mask : Int) / 2 ^ k) 1 = 0 := by rw [e1, hz]; rfl
        have q0 : (Go.bits .and .u16 ((mask : Int) / 2 ^ k) 1 == 0) = true := by rw [e1']; rfl
        clear e1 e2 hz
        go_wp2_with fail
        go_roundw
        case rel => exact ⟨k + 1, by go_num, by rw [HM.out], by omega, ⟨by rw [HM.out]; exact HR.out⟩, HB⟩
        case measure => simp [intOf]; omega
      have e1' : Go.bits .and .u16 ((mask : Int) / 2 ^ k) 1 = 1 := by rw [e1]; omega
      have q0 : (Go.bits .and .u16 ((mask : Int) / 2 ^ k) 1 == 0) = false := by rw [e1']; rfl
      clear e1 e2
      by_cases hp : 8 * nb ≤ a + k
      · have HM : Aside0 (dm a mask fb (k + 1) = dm a mask fb k) := ⟨dm_miss (fun q => by have := q.2.1; rw [HNB.out] at this; omega)⟩
        have d1 : decide (8 * (nb : Int) ≤ (a : Int) + (k : Int)) = true := by simp; omega
        clear hz
        go_wp2_with fail
        go_roundw
        case rel => exact ⟨k + 1, by go_num, by rw [HM.out], by omega, ⟨by rw [HM.out]; exact HR.out⟩, HB⟩
        case measure => simp [intOf]; omega
      have d1 : decide (8 * (nb : Int) ≤ (a : Int) + (k : Int)) = false := by simp; omega
      by_cases h34 : 34 ≤ a + k
      · have d2 : decide (34 ≤ (a : Int) + (k : Int)) = true := by simp; omega
        by_cases h44 : a + k ≤ 44
        · have d3 : decide ((a : Int) + (k : Int) ≤ 44) = true := by simp; omega
          have HM : Aside0 (dm a mask fb (k + 1) = dm a mask fb k) := ⟨dm_miss (fun q => q.2.2 ⟨h34, h44⟩)⟩
          clear hz
          go_wp2_with fail
          go_roundw
          case rel => exact ⟨k + 1, by go_num, by rw [HM.out], by omega, ⟨by rw [HM.out]; exact HR.out⟩, HB⟩
          case measure => simp [intOf]; omega
        have d3 : decide ((a : Int) + (k : Int) ≤ 44) = false := by simp; omega
        have hset : dm a mask fb (k + 1) = ((dm a mask fb k).1.set ((a + k) / 8) (xorB ((dm a mask fb k).1.getD ((a + k) / 8) 0) (2 ^ (7 - (a + k) % 8))), true) := dm_hit (by unfold Hit; rw [HNB.out]; exact ⟨by omega, by omega, by omega⟩)
        have hx8 := getD8 (dm_8 a mask HW8.out k) ((a + k) / 8)
        obtain ⟨q, hq⟩ : ∃ q, q = (a + k) / 8 := ⟨_, rfl⟩
        obtain ⟨m, hm'⟩ : ∃ m, m = (a + k) % 8 := ⟨_, rfl⟩
        rw [← hq, ← hm'] at hset
        rw [← hq] at hx8
        have hcell := Kd.R_celln 0 HR.out (q : Int) (by omega) (by omega)
        unfold rdOf at hcell
        rw [Int.toNat_natCast] at hcell
        obtain ⟨hc1, hc2⟩ := hcell
        generalize hxd : (dm a mask fb k).1.getD q 0 = x at *
        obtain ⟨x, rfl⟩ : ∃ y : Nat, x = y := ⟨x.toNat, by omega⟩
        have i1 : (0 : Int) ≤ (q : Int) := by omega
        have i2 : (q : Int) < (nb : Int) := by omega
        have i2' : q < nb := by omega
        have w0' : ((a : Int) + (k : Int)).tdiv 8 = (q : Int) := by rw [Int.tdiv_eq_ediv_of_nonneg (by omega)]; omega
        have w1' : IntKind.i64.wrap (((a : Int) + (k : Int)) / 8) = (q : Int) := by rw [IntWalk.i64_in _ (by omega)]; omega
        have w4' : IntKind.i64.wrap (q : Int) = (q : Int) := IntWalk.i64_in _ (by omega)
        have w5' : ((a : Int) + (k : Int)) / 8 = (q : Int) := by omega
        have w6' : ((a : Int) + (k : Int)) % 8 = (m : Int) := by omega
        have w2' : ((a : Int) + (k : Int)).tmod 8 = (m : Int) := by rw [Int.tmod_eq_emod_of_nonneg (by omega)]; omega
        have w7' : IntKind.i64.wrap (m : Int) = (m : Int) := IntWalk.i64_in _ (by omega)
        have HSet := Aside0.mk hset
        have hp2 := Nat.pow_le_pow_right (show 0 < 2 by omega) (show 7 - m ≤ 7 by omega)
        have hxo : Aside0 (Go.bits .xor .u8 (x : Int) ((2 ^ (7 - m) : Nat) : Int) = xorB (x : Int) (2 ^ (7 - m))) := ⟨by
          rw [xor_u8 x _ (by omega) (by omega)]; rfl⟩
        have hw : Aside0 ((128 : Int) / 2 ^ m = ((2 ^ (7 - m) : Nat) : Int)) := ⟨by
          have h8 : m < 8 := by omega
          rcases pow_lt8 h8 with h | h | h | h | h | h | h | h <;> subst h <;> decide⟩
        clear hset hq hm' hz hp2 hxd hdm
        go_wp2_with fail
        refine wp_still 10 (by kernel_rfl) (by kernel_rfl) ?_
        simp only [List.take_succ_cons, List.take_zero, List.drop_succ_cons, List.drop_zero]
        repeat still_step
        repeat still_step
        refine wpStill_nil ?_
        show wpList _ _ _ _ _ _
        rw [hw.out, hxo.out]
        generalize xorB (x : Int) (2 ^ (7 - m)) = V at *
        clear w0' w1' w2' w4' w5' w6' w7' hxo hw
        go_wp2_with fail
        go_roundw
        case rel =>
          have hr := Kd.R_putn HR.out (q : Int) V
          rw [Int.toNat_natCast] at hr
          refine ⟨k + 1, by go_num, by rw [HSet.out], by omega, ⟨?_⟩, ⟨?_⟩⟩
          · rw [HSet.out]
            first | exact hr | exact Kd.R_drew hr
          · have hb := HB.out.setCell (p := ⟨g, q, none⟩) HGS.out (.int .u8 V)
            first | exact hb | exact below_drew hb
        case measure => simp [intOf]; omega
      · have d2 : decide (34 ≤ (a : Int) + (k : Int)) = false := by simp; omega
        have hset : dm a mask fb (k + 1) = ((dm a mask fb k).1.set ((a + k) / 8) (xorB ((dm a mask fb k).1.getD ((a + k) / 8) 0) (2 ^ (7 - (a + k) % 8))), true) := dm_hit (by unfold Hit; rw [HNB.out]; exact ⟨by omega, by omega, by omega⟩)
        have hx8 := getD8 (dm_8 a mask HW8.out k) ((a + k) / 8)
        obtain ⟨q, hq⟩ : ∃ q, q = (a + k) / 8 := ⟨_, rfl⟩
        obtain ⟨m, hm'⟩ : ∃ m, m = (a + k) % 8 := ⟨_, rfl⟩
        rw [← hq, ← hm'] at hset
        rw [← hq] at hx8
        have hcell := Kd.R_celln 0 HR.out (q : Int) (by omega) (by omega)
        unfold rdOf at hcell
        rw [Int.toNat_natCast] at hcell
        obtain ⟨hc1, hc2⟩ := hcell
        generalize hxd : (dm a mask fb k).1.getD q 0 = x at *
        obtain ⟨x, rfl⟩ : ∃ y : Nat, x = y := ⟨x.toNat, by omega⟩
        have i1 : (0 : Int) ≤ (q : Int) := by omega
        have i2 : (q : Int) < (nb : Int) := by omega
        have i2' : q < nb := by omega
        have w0' : ((a : Int) + (k : Int)).tdiv 8 = (q : Int) := by rw [Int.tdiv_eq_ediv_of_nonneg (by omega)]; omega
        have w1' : IntKind.i64.wrap (((a : Int) + (k : Int)) / 8) = (q : Int) := by rw [IntWalk.i64_in _ (by omega)]; omega
        have w4' : IntKind.i64.wrap (q : Int) = (q : Int) := IntWalk.i64_in _ (by omega)
        have w5' : ((a : Int) + (k : Int)) / 8 = (q : Int) := by omega
        have w6' : ((a : Int) + (k : Int)) % 8 = (m : Int) := by omega
        have w2' : ((a : Int) + (k : Int)).tmod 8 = (m : Int) := by rw [Int.tmod_eq_emod_of_nonneg (by omega)]; omega
        have w7' : IntKind.i64.wrap (m : Int) = (m : Int) := IntWalk.i64_in _ (by omega)
        have HSet := Aside0.mk hset
        have hp2 := Nat.pow_le_pow_right (show 0 < 2 by omega) (show 7 - m ≤ 7 by omega)
        have hxo : Aside0 (Go.bits .xor .u8 (x : Int) ((2 ^ (7 - m) : Nat) : Int) = xorB (x : Int) (2 ^ (7 - m))) := ⟨by
          rw [xor_u8 x _ (by omega) (by omega)]; rfl⟩
        have hw : Aside0 ((128 : Int) / 2 ^ m = ((2 ^ (7 - m) : Nat) : Int)) := ⟨by
          have h8 : m < 8 := by omega
          rcases pow_lt8 h8 with h | h | h | h | h | h | h | h <;> subst h <;> decide⟩
        clear hset hq hm' hz hp2 hxd hdm
        go_wp2_with fail
        refine wp_still 10 (by kernel_rfl) (by kernel_rfl) ?_
        simp only [List.take_succ_cons, List.take_zero, List.drop_succ_cons, List.drop_zero]
        repeat still_step
        repeat still_step
        refine wpStill_nil ?_
        show wpList _ _ _ _ _ _
        rw [hw.out, hxo.out]
        generalize xorB (x : Int) (2 ^ (7 - m)) = V at *
        clear w0' w1' w2' w4' w5' w6' w7' hxo hw
        go_wp2_with fail
        go_roundw
        case rel =>
          have hr := Kd.R_putn HR.out (q : Int) V
          rw [Int.toNat_natCast] at hr
          refine ⟨k + 1, by go_num, by rw [HSet.out], by omega, ⟨?_⟩, ⟨?_⟩⟩
          · rw [HSet.out]
            first | exact hr | exact Kd.R_drew hr
          · have hb := HB.out.setCell (p := ⟨g, q, none⟩) HGS.out (.int .u8 V)
            first | exact hb | exact below_drew hb
        case measure => simp [intOf]; omega
    · obtain rfl : k = 16 := by omega
      have hyl := dm_length a mask fb 16
      rw [HNB.out] at hyl
      have hro := Read_own g cv (dm a mask fb 16).1 wr (by rw [hyl]; exact HR.out) (dm_8 a mask HW8.out 16) (by rw [hyl]; omega) (HG2.out.below HB.out)
      rw [HDA.out, hyl] at hro
      have HRO := Aside0.mk hro
      clear hro hyl
      go_wp2_with fail
      refine HRO.out.mono ?_
      rintro e w5 ⟨x0, x1, x2, x3, x4, x5, x6, v5, fe, rfl, hfe, hb⟩
      have HB5 := Aside0.mk (HB.out.trans (hb.mono HB.out.size))
      clear hb HRO HDA
      generalize (dm a mask fb 16).2 = sm at *
      have hb6 := below_alloc (Below.refl w5.heap.size w5) (.cells #[.int .i64 x0, .bool x1, .int .i64 x2, .int .i64 x3, .int .i64 x4, .int .i64 x5, .int .i64 x6] 23)
      have HB6 := Aside0.mk (HB5.out.trans (hb6.mono HB5.out.size))
      clear hb6
      cases sm with
      | true =>
        have q7 : (fe != 0) = true := by rw [hfe]; rfl
        clear hfe
        go_wp2_with fail
        refine (awake_any _ (HG2.out.below HB6.out)).mono ?_
        rintro e w9 ⟨rfl, hb⟩
        have HB9 := Aside0.mk (HB6.out.trans (hb.mono HB6.out.size))
        clear hb
        go_wp2_with fail
        go_ret
        exact ⟨rfl, HB2.out.trans (HB9.out.mono HB2.out.size)⟩
      | false =>
        have q7 : (fe != 0) = false := by rw [hfe]; rfl
        clear hfe
        go_wp2_with fail
        refine (awake_any _ (HG2.out.below HB6.out)).mono ?_
        rintro e w9 ⟨rfl, hb⟩
        have HB9 := Aside0.mk (HB6.out.trans (hb.mono HB6.out.size))
        clear hb
        go_wp2_with fail
        go_ret
        exact ⟨rfl, HB2.out.trans (HB9.out.mono HB2.out.size)⟩
end Go.Proofs.YtnaklnehichhpaaDoor.P
