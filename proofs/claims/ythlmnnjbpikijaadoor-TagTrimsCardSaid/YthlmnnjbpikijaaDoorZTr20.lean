/- The contracts of tag.content and tag.Write. -/
import Derived.Test.YthlmnnjbpikijaaDoorZTr15
import Derived.Test.YthlmnnjbpikijaaDoorZTr16
import Derived.Test.YthlmnnjbpikijaaDoorZTr13
import Derived.Test.YthlmnnjbpikijaaDoorZTr10
namespace Go.Proofs.YthlmnnjbpikijaaDoor.P
open Go.RowKit Go.Shelf Go.Proofs.YthlmnnjbpikijaaDoor.Bits Go.Proofs.YthlmnnjbpikijaaDoorW.PrintWords Go.Proofs.YthlmnnjbpikijaaDoorW.PrintLast Go.Proofs.YthlmnnjbpikijaaDoorW.PrintMore
set_option linter.unusedVariables false
set_option linter.unusedSimpArgs false
attribute [local go_sem ↓] Go.wp_at_zero Go.wp_at_succ
/-- A new writer of one's own, in memory made from w on. -/
structure OW (w W : World) (p : Nat) (L : List Int) : Prop where
  wr : ∃ S, Wr W S p L ∧ ∀ k, S k → w.heap.size ≤ k
  bel : Below w.heap.size w W
  pge : w.heap.size ≤ p
theorem OW.step {w W W' : World} {p : Nat} {L : List Int} {S : Nat → Prop} {L' : List Int} (h : OW w W p L) (hS : ∀ k, S k → w.heap.size ≤ k) (k : WrTo W S p L' W') : OW w W' p L' := by
  obtain ⟨S', h1, h2, f⟩ := k
  refine ⟨⟨S', h1, fun j hj => ?_⟩, h.bel.trans (f.to_below h.bel.size (fun j hj => ?_)), h.pge⟩
  · rcases h2 j hj with q | q
    · exact hS j q
    · have := h.bel.size; omega
  · rcases hj with rfl | q
    · exact h.pge
    · exact hS j q
theorem OW.below {w W W' : World} {p : Nat} {L : List Int} (h : OW w W p L) (hb : Below W.heap.size W W') : OW w W' p L := by
  obtain ⟨⟨S, h1, h2⟩, h3, h4⟩ := h
  exact ⟨⟨S, h1.below hb, h2⟩, h3.trans (hb.mono h3.size), h4⟩
/-- A put that fits, by one's own writer; cells of other types stay. -/
theorem put_own {w W : World} {p : Nat} {L : List Int} (h : OW w W p L) (v : Int) (n : Nat) (hn : n ≤ 32) (hv : 0 ≤ v ∧ v < 2 ^ n) (hl : L.length + n ≤ 1048576) :
    Calls Tryd.prog 62 #[.pointer (some ⟨p, 0, none⟩), .int .i64 v, .int .i64 (n : Int)] W fun e W' => e = .returned (.int .i64 0) ∧ OW w W' p (L ++ numb v n) ∧ ∀ k cs t fr, k ≠ p → t ≠ 5 → W.heap[k]? = some (.cells cs t fr) → W'.heap[k]? = some (.cells cs t fr) := by
  obtain ⟨S, h1, h2⟩ := h.wr
  refine (Put_any S p L v (n : Int) W h1 (by omega)).mono ?_
  rw [wPut_ok' L v n hn hv hl]
  rintro e W' ⟨rfl, hw⟩
  refine ⟨rfl, h.step h2 hw, fun k cs t fr hk ht e => ?_⟩
  obtain ⟨S', _, _, f⟩ := hw
  refine blk_fr e f ?_
  rintro (q | q)
  · exact hk q
  · obtain ⟨cells, hc⟩ := h1.typed k q
    rw [e] at hc
    cases hc
    exact ht rfl
/-- The bytes of a string, in new memory, appended by one's own writer. -/
theorem str_own {w W : World} {p : Nat} {L : List Int} (h : OW w W p L) (s : ByteArray) (c n : Nat) (hn : n = 8 * s.size) (hl : L.length + n ≤ 1048576) :
    Calls Tryd.prog 63 #[.pointer (some ⟨p, 0, none⟩), .slice (some ⟨W.heap.size, 0, none⟩) s.size c, .int .i64 (n : Int)] (Lib.bytesWorld W 5 s) fun e W' => e = .returned (.int .i64 0) ∧ OW w W' p (L ++ ofB (bytesOf s) n) ∧ ∀ k cs t fr, k ≠ p → t ≠ 5 → W.heap[k]? = some (.cells cs t fr) → W'.heap[k]? = some (.cells cs t fr) := by
  have hb : Below W.heap.size W (Lib.bytesWorld W 5 s) := bytes_below (Below.refl _ _) (Nat.le_refl _) _ s
  have hr := Kd.C_of_reads (enc := Value.int .u8) (d := (0 : Int)) (h1 := fun _ => rfl) (bytes_reads W 5 s (by omega))
  obtain ⟨S, h1, h2⟩ := h.wr
  have hp := h1.p_lt
  have ha := Append_any S p L (some ⟨W.heap.size, 0, none⟩) c (bytesOf s) (n : Int) _ (h1.below hb) (by omega) (by rw [bytesOf_length]; exact hr) (bytesOf_8 s) (by rw [bytesOf_length]; omega) (fun ad e h0 => by
    cases e
    rintro (q | q)
    · dsimp only at q; omega
    · have := h1.lt _ q; dsimp only at this; omega)
  rw [bytesOf_length, wAppend_ok L (bytesOf s) n (by rw [bytesOf_length]; exact hn) hl] at ha
  refine ha.mono ?_
  rintro e W' ⟨rfl, hw⟩
  refine ⟨rfl, (h.below hb).step h2 hw, fun k cs t fr hk ht e => ?_⟩
  obtain ⟨S', _, _, f⟩ := hw
  refine blk_fr ((hb.block k (lt_of_block e)).trans e) f ?_
  rintro (q | q)
  · exact hk q
  · obtain ⟨cells, hc⟩ := h1.typed k q
    rw [e] at hc
    cases hc
    exact ht rfl
set_option maxHeartbeats 8000000 in
set_option maxRecDepth 100000 in
theorem content_any (t : TG) (A : Option Addr) (c : Nat) (w : World) (h : FD w A c t.fs) (hok : okT t = true) :
    Calls Tryd.prog 38 #[tagV t.skip t.cut A t.fs.length c] w fun e w' => ∃ v S, e = .returned v ∧ RB S w' v (tagB t) ∧ (∀ k, S k → w.heap.size ≤ k) ∧ Below w.heap.size w w' := by
  obtain ⟨hfs, h32, hs, hu⟩ := okT_fs hok
  have hpk := pk_tagBits t
  unfold tagBits at hpk
  obtain ⟨s, u, l⟩ := t
  dsimp only at *
  have hsm := good_small hfs
  have hfl := flds_len l hsm
  unfold okN at hs hu
  simp only [decide_eq_true_eq] at hs hu
  obtain ⟨w1, hw1⟩ : ∃ w1, w1 = w.alloc (tagObj s u A l.length c) := ⟨_, rfl⟩
  have hb1 : Below w.heap.size w w1 := by rw [hw1]; exact below_alloc (Below.refl _ _) _
  have hx1 : w1.heap[w.heap.size]? = some (tagObj s u A l.length c) := by rw [hw1]; exact World.alloc_heap_new w _
  have HF := Aside0.mk h
  have HB1 := Aside0.mk hb1
  have HX1 := Aside0.mk hx1
  have HW1 := Aside0.mk hw1
  have HPK := Aside0.mk hpk
  have HSM := Aside0.mk hsm
  have HFL := Aside0.mk hfl
  have kb8 := fun (s : ByteArray) W => print_bytes (P := Tryd.prog) 9 27 5 Tryd.underlying9 Tryd.underlying27 (by kernel_rfl) s W
  clear h hb1 hx1 hw1 hpk hsm hfl hfs hok
  go_enter Tryd.func38, Tryd.ntmps38
  go_wp2_with fail
  rw [← HW1.out]
  refine (New_any w1).mono ?_
  rintro e w2 ⟨rfl, hw2⟩
  obtain ⟨p, hp⟩ : ∃ p, p = w1.heap.size := ⟨_, rfl⟩
  have hb2 : Below w1.heap.size w1 w2 := by rw [hw2]; exact below_alloc (Below.refl _ _) _
  have hO2 : OW w w2 p [] := ⟨⟨_, by rw [hw2, hp]; exact Wr.new w1, fun k (hk : False) => hk.elim⟩, HB1.out.trans (hb2.mono HB1.out.size), by rw [hp]; exact HB1.out.size⟩
  have hX2 := blk_fr HX1.out (Fr.below hb2 (fun _ => False)) (fun h => h)
  have HNE : Aside0 (w.heap.size ≠ p) := ⟨by have := lt_of_block HX1.out; omega⟩
  have z0 : w2.cell? ⟨w.heap.size, 0, none⟩ = some (.int .i64 s) := by rw [cell_of_row _ _ _ _ _ _ hX2]; rfl
  have HO2 := Aside0.mk hO2
  have HX2 := Aside0.mk hX2
  rw [← hp]
  clear hw2 hb2 hO2 hX2 hp
  go_wp2_with fail
  refine (put_own HO2.out s 16 (by omega) (by omega) (by simp)).mono ?_
  rintro e w3 ⟨rfl, hO3, hk3⟩
  have hX3 := hk3 _ _ _ _ HNE.out (by decide) HX2.out
  have z1 : w3.cell? ⟨w.heap.size, 1, none⟩ = some (.int .i64 u) := by rw [cell_of_row _ _ _ _ _ _ hX3]; rfl
  have HO3 := Aside0.mk hO3
  have HX3 := Aside0.mk hX3
  clear hO3 hk3 hX3 z0 HO2 HX2
  go_wp2_with fail
  refine (put_own HO3.out u 16 (by omega) (by omega) (by simp [numb_length])).mono ?_
  rintro e w4 ⟨rfl, hO4, hk4⟩
  have hX4 := hk4 _ _ _ _ HNE.out (by decide) HX3.out
  have z2 : w4.cell? ⟨w.heap.size, 2, none⟩ = some (.slice A l.length c) := by rw [cell_of_row _ _ _ _ _ _ hX4]; rfl
  have HO4 := Aside0.mk hO4
  have HX4 := Aside0.mk hX4
  clear hO4 hk4 hX4 z1 HO3 HX3
  go_wp2_with fail
  refine (put_own HO4.out (l.length : Int) 8 (by omega) (by omega) (by simp [numb_length])).mono ?_
  rintro e w5 ⟨rfl, hO5, hk5⟩
  have hX5 := hk5 _ _ _ _ HNE.out (by decide) HX4.out
  have z2 : w5.cell? ⟨w.heap.size, 2, none⟩ = some (.slice A l.length c) := by rw [cell_of_row _ _ _ _ _ _ hX5]; rfl
  rw [List.nil_append] at hO5
  obtain ⟨L0, hL0⟩ : ∃ L0, (numb s 16 ++ numb u 16) ++ numb (l.length : Int) 8 = L0 := ⟨_, rfl⟩
  have HL0 : Aside0 (L0.length = 40) := ⟨by rw [← hL0]; simp [numb_length]⟩
  rw [hL0] at hO5
  have HPK2 : Aside0 (pk (L0 ++ l.flatMap fldBits') = tagB ⟨s, u, l⟩) := ⟨by rw [← HPK.out, ← hL0]; simp⟩
  have HO5 := Aside0.mk hO5
  clear hO5 hk5 hX5 HO4 HX4 hL0 HPK
  go_wp2_with fail
  clear z2
  go_loopw [23] (fun u wr => ∃ k : Nat, u = .int .i64 (k : Int) ∧ k ≤ l.length ∧ Aside0 (OW w wr p (L0 ++ (l.take k).flatMap fldBits'))) (fun u _ => l.length - (intOf u).toNat)
  case atStart => exact ⟨0, rfl, Nat.zero_le _, ⟨by simpa using HO5.out⟩⟩
  case round =>
    obtain ⟨k, rfl, hk, HO⟩ := hrel
    by_cases hlt : k < l.length
    · obtain ⟨ad, rfl, hx0, hx1⟩ := at_T56 (Kd.C_below HF.out.C HO.out.bel) (k : Int) (by omega) (by omega)
      rw [show rd_T56 l (k : Int) = nth l k from rfl] at hx0 hx1
      rw [Int.toNat_natCast] at hx0 hx1
      have hmem : nth l k ∈ l := by unfold nth; rw [List.getD_eq_getElem?_getD, List.getElem?_eq_getElem hlt]; exact List.getElem_mem _
      obtain ⟨s4, s1k⟩ := HSM.out _ hmem
      have hfk := flds_take l k hlt
      have hle : ((l.take k).flatMap fldBits').length ≤ k * 8048 := by
        have := flds_len (l.take k) (fun g hg => HSM.out g (List.mem_of_mem_take hg))
        rwa [List.length_take, Nat.min_eq_left hk] at this
      have HFK := Aside0.mk hfk
      have HLE : Aside0 ((L0 ++ (l.take k).flatMap fldBits').length ≤ 40 + 32 * 8048) := ⟨by rw [List.length_append, HL0.out]; omega⟩
      unfold fldBits' at hfk
      obtain ⟨f0, e0⟩ : ∃ f, (nth l k).f0 = f := ⟨_, rfl⟩
      obtain ⟨f1, e1⟩ : ∃ f, (nth l k).f1 = f := ⟨_, rfl⟩
      have HFB : Aside0 (fldBits' (nth l k) = ofB (bytesOf f0) (8 * f0.size) ++ (numb f1.size 16 ++ ofB (bytesOf f1) (8 * f1.size))) := ⟨by rw [← e0, ← e1]; rfl⟩
      rw [e0] at hx0 s4
      rw [e1] at hx1 s1k
      obtain ⟨L1, hL1⟩ : ∃ L1, L0 ++ (l.take k).flatMap fldBits' = L1 := ⟨_, rfl⟩
      rw [hL1] at HO HLE
      have HL1 := Aside0.mk hL1
      clear hmem hfk hle e0 e1 hL1
      obtain ⟨wa, hwa⟩ : ∃ wa, wa = wr.alloc (.cells #[.string f0, .string f1] 56) := ⟨_, rfl⟩
      have hba : Below wr.heap.size wr wa := by rw [hwa]; exact below_alloc (Below.refl _ _) _
      have hEa : wa.heap[wr.heap.size]? = some (.cells #[.string f0, .string f1] 56 (0, 0)) := by rw [hwa]; exact World.alloc_heap_new wr _
      have hpe : wr.heap.size ≠ p := by
        obtain ⟨S, h1, _⟩ := HO.out.wr
        have := h1.p_lt
        omega
      have hOa := HO.out.below hba
      have hst := fun c => str_own hOa f0 c (8 * f0.size) rfl (by have := HLE.out; omega)
      rw [show ((8 * f0.size : Nat) : Int) = 8 * (f0.size : Int) by omega] at hst
      have hw0 : wrap64 (8 * (f0.size : Int)) = 8 * (f0.size : Int) := wrap64_id (by omega) (by omega)
      have hw1 : wrap64 (8 * (f1.size : Int)) = 8 * (f1.size : Int) := wrap64_id (by omega) (by omega)
      have kb0 := kb8 f0 wa
      have z0b : (Lib.bytesWorld wa 5 f0).cell? ⟨wr.heap.size, 0, none⟩ = some (.string f0) := by rw [cell_of_row _ _ _ _ _ _ (((bytes_below (Below.refl _ _) (Nat.le_refl _) 5 f0 : Below wa.heap.size wa _).block _ (lt_of_block hEa)).trans hEa)]; rfl
      obtain ⟨wb, hwb⟩ : ∃ wb, wb = Lib.bytesWorld wa 5 f0 := ⟨_, rfl⟩
      rw [← hwb] at hst z0b kb0
      have HEA := Aside0.mk hEa
      have HPE := Aside0.mk hpe
      have HKB := Aside0.mk kb8
      rw [show wa.heap.size = wr.heap.size + 1 by rw [hwa]; simp] at kb0 hst
      rw [hwa] at kb0
      have HST := Aside0.mk hst
      have HWA := Aside0.mk hwa
      have HW1Z := Aside0.mk hw1
      have HS4 := Aside0.mk s4
      have HS1 := Aside0.mk s1k
      clear hba hEa hpe hOa hst kb8 hwa s4 s1k hw1 hwb
      go_wp2_with fail
      refine (HST.out _).mono ?_
      rintro e w6 ⟨rfl, hO6, hk6⟩
      have hE6 := hk6 _ _ _ _ HPE.out (by decide) HEA.out
      have z6 : w6.cell? ⟨wr.heap.size, 1, none⟩ = some (.string f1) := by rw [cell_of_row _ _ _ _ _ _ hE6]; rfl
      have HP7 := Aside0.mk (put_own hO6 (f1.size : Int) 16 (by omega) (by have := HS1.out; omega) (by rw [List.length_append, ofB_length]; have := HLE.out; have := HS4.out; omega))
      have HE6 := Aside0.mk hE6
      clear hO6 hk6 hE6 kb0 z0b HST
      go_wp2_with fail
      refine HP7.out.mono ?_
      rintro e w7 ⟨rfl, hO7, hk7⟩
      have hE7 := hk7 _ _ _ _ HPE.out (by decide) HE6.out
      have z7 : w7.cell? ⟨wr.heap.size, 1, none⟩ = some (.string f1) := by rw [cell_of_row _ _ _ _ _ _ hE7]; rfl
      have z7b : (Lib.bytesWorld w7 5 f1).cell? ⟨wr.heap.size, 1, none⟩ = some (.string f1) := by rw [cell_of_row _ _ _ _ _ _ (((bytes_below (Below.refl _ _) (Nat.le_refl _) 5 f1 : Below w7.heap.size w7 _).block _ (lt_of_block hE7)).trans hE7)]; rfl
      have hst2 := fun c => str_own hO7 f1 c (8 * f1.size) rfl (by rw [List.length_append, List.length_append, ofB_length, numb_length]; have := HLE.out; have := HS4.out; have := HS1.out; omega)
      rw [show ((8 * f1.size : Nat) : Int) = 8 * (f1.size : Int) by omega] at hst2
      have kb1 := HKB.out f1 w7
      have hw1 := HW1Z.out
      obtain ⟨wc, hwc⟩ : ∃ wc, wc = Lib.bytesWorld w7 5 f1 := ⟨_, rfl⟩
      rw [← hwc] at hst2 z7b kb1
      have HST2 := Aside0.mk hst2
      clear hO7 hk7 hE7 hst2 z6 HP7 hwc hw0
      go_wp2_with fail
      refine (HST2.out _).mono ?_
      rintro e w8 ⟨rfl, hO8, hk8⟩
      have HO8 : Aside0 (OW w w8 p (L0 ++ (l.take (k + 1)).flatMap fldBits')) := ⟨by
        have := hO8
        rw [HFK.out, HFB.out, ← List.append_assoc L0, HL1.out]
        simpa using this⟩
      clear hO8 hk8 z7 z7b kb1 HST2
      go_wp2_with fail
      go_roundw
      case rel => exact ⟨k + 1, by go_num, by omega, HO8⟩
      case measure => simp [intOf]; omega
    · obtain rfl : k = l.length := by omega
      have ho := HO.out
      rw [List.take_length] at ho
      obtain ⟨S, hW, hS⟩ := ho.wr
      have hlen : (L0 ++ l.flatMap fldBits').length ≤ 1048576 := by have := HFL.out; rw [List.length_append, HL0.out]; omega
      have HBY := Aside0.mk (Bytes_any S p _ wr hW hlen)
      have HBE := Aside0.mk ho.bel
      clear ho hW hS hlen
      go_wp2_with fail
      refine HBY.out.mono ?_
      rintro e w6 ⟨v, S', rfl, hr, hs', hb⟩
      have HR := Aside0.mk hr
      have HS := Aside0.mk hs'
      have HB := Aside0.mk hb
      clear hr hs' hb HBY
      go_wp2_with fail
      go_ret
      refine ⟨_, S', rfl, by rw [← HPK2.out]; exact HR.out, fun k hk => Nat.le_trans HBE.out.size (HS.out k hk), HBE.out.trans (HB.out.mono HBE.out.size)⟩
end Go.Proofs.YthlmnnjbpikijaaDoor.P
