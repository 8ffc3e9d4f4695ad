/- The walk of BitsRefused. -/
import Derived.Test.YtmjekkkpbcehoaaGa
import Derived.Test.YtmjekkkpbcehoaaDb
import Derived.Test.YtmjekkkpbcehoaaEf
namespace Go.Proofs.Ytmjekkkpbcehoaa.P
open Go.RowKit Go.Shelf Go.Proofs.Ytmjekkkpbcehoaa.Bits Go.Proofs.YtmjekkkpbcehoaaW.PrintWords Go.Proofs.YtmjekkkpbcehoaaW.PrintLast Go.Proofs.YtmjekkkpbcehoaaW.PrintMore
set_option linter.unusedVariables false
set_option linter.unusedSimpArgs false
attribute [local go_sem ↓] Go.wp_at_zero Go.wp_at_succ

/-- A reader of one's own. -/
structure RdIn (w0 w : World) (S : Nat → Prop) (p : Nat) (L : List Int) (a : Nat) : Prop where
  rd : Rd w S p L a
  pge : w0.heap.size ≤ p
  bel : Below w0.heap.size w0 w
theorem RdIn.below {w0 w w' : World} {S : Nat → Prop} {p : Nat} {L : List Int} {a : Nat} (h : RdIn w0 w S p L a) (hb : Below w.heap.size w w') : RdIn w0 w' S p L a :=
  ⟨h.rd.below hb, h.pge, h.bel.trans (hb.mono h.bel.size)⟩
theorem RdIn.step {w0 w w' : World} {S : Nat → Prop} {p : Nat} {L : List Int} {a b : Nat} (h : RdIn w0 w S p L a) (hr : Rd w' S p L b) (hf : Fr (fun k => k = p) w w') : RdIn w0 w' S p L b :=
  ⟨hr, h.pge, h.bel.trans (hf.to_below h.bel.size (fun j hj => by subst hj; exact h.pge))⟩

set_option maxHeartbeats 8000000 in
set_option maxRecDepth 100000 in
theorem BitsRefused_any (X : Option Addr) (c : Nat) (ops : List OpD) (z : OpD) (w : World) (h : OpsAt w X ops) (hl : ops.length ≤ 9000000000000000000) (hz : z.ok w) :
    Calls Try.prog 9 #[.slice X ops.length c, z.val] w fun e w' => e = .returned (.bool true) ∧ Below w.heap.size w w' := by
  obtain ⟨kz, vz, nz, Az, cz, Bz⟩ := z
  dsimp only [OpD.val] at *
  have HZ := Aside0.mk hz
  have hzl := hz.short
  dsimp only at hzl
  obtain ⟨wz, hwz⟩ : ∃ wz, wz = w.alloc (.cells #[.int .u8 (kz : Int), .int .i64 vz, .int .i64 nz, .slice Az Bz.length cz] 41) := ⟨_, rfl⟩
  have hkbz : wz.heap[w.heap.size]? = some (.cells #[.int .u8 (kz : Int), .int .i64 vz, .int .i64 nz, .slice Az Bz.length cz] 41 (0, 0)) := by rw [hwz]; exact World.alloc_heap_new w _
  have hbbz : Below w.heap.size w wz := by rw [hwz]; exact below_alloc (Below.refl _ _) _
  obtain ⟨bz, hbz⟩ : ∃ bz, bz = w.heap.size := ⟨_, rfl⟩
  rw [← hbz] at hkbz
  have HZBW := Aside0.mk hwz
  have HZBB := Aside0.mk hbz
  have HZBK := Aside0.mk hkbz
  have HZBL := Aside0.mk hbbz
  clear hwz hbz hkbz hbbz
  have HOO := Aside0.mk h
  have HO := Aside0.mk (h.below HZBL.out)
  have HZO := Aside0.mk (hz.below HZBL.out)
  have HBZ := Aside0.mk HZBL.out
  have hkz := HZBK.out
  have z0 : wz.cell? ⟨bz, 0, none⟩ = some (Value.int .u8 (kz : Int)) := by rw [cell_of_row _ _ _ _ _ _ hkz]; rfl
  have z1 : wz.cell? ⟨bz, 1, none⟩ = some (.int .i64 vz) := by rw [cell_of_row _ _ _ _ _ _ hkz]; rfl
  have z2 : wz.cell? ⟨bz, 2, none⟩ = some (.int .i64 nz) := by rw [cell_of_row _ _ _ _ _ _ hkz]; rfl
  have z3 : wz.cell? ⟨bz, 3, none⟩ = some (.slice Az Bz.length cz) := by rw [cell_of_row _ _ _ _ _ _ hkz]; rfl
  have hfew := few_any X c ops wz HO.out hl
  clear h hz hkz
  cases hf : fewB ops with
  | false =>
    rw [hf] at hfew
    have HF := Aside0.mk hfew
    clear hfew hf
    go_enter Try.func9, Try.ntmps9
    go_wp2_with fail
    rw [← HZBW.out, ← HZBB.out]
    refine HF.out.mono ?_
    rintro e w1 ⟨rfl, hb⟩
    have HB1 := Aside0.mk (HBZ.out.trans (hb.mono HBZ.out.size))
    clear hb
    go_wp2_with fail
    refine (awake_any w1).mono ?_
    rintro e w2 ⟨rfl, hb⟩
    have HB2 := Aside0.mk (HB1.out.trans (hb.mono HB1.out.size))
    clear hb
    go_wp2_with fail
    go_ret
    exact ⟨rfl, HB2.out⟩
  | true =>
  rw [hf] at hfew
  have HF := Aside0.mk hfew
  have HFE := Aside0.mk hf
  clear hfew hf
  by_cases hbl : 140000 < Bz.length
  · have d1 : decide ((140000 : Int) < (Bz.length : Int)) = true := by simp; omega
    go_enter Try.func9, Try.ntmps9
    go_wp2_with fail
    rw [← HZBW.out, ← HZBB.out]
    refine HF.out.mono ?_
    rintro e w1 ⟨rfl, hb⟩
    have HB1 := Aside0.mk (HBZ.out.trans (hb.mono HBZ.out.size))
    have hkz := blk_fr HZBK.out (Fr.below hb (fun _ => False)) (fun h => h)
    have z10 : w1.cell? ⟨bz, 0, none⟩ = some (Value.int .u8 (kz : Int)) := by rw [cell_of_row _ _ _ _ _ _ hkz]; rfl
    have z11 : w1.cell? ⟨bz, 1, none⟩ = some (.int .i64 vz) := by rw [cell_of_row _ _ _ _ _ _ hkz]; rfl
    have z12 : w1.cell? ⟨bz, 2, none⟩ = some (.int .i64 nz) := by rw [cell_of_row _ _ _ _ _ _ hkz]; rfl
    have z13 : w1.cell? ⟨bz, 3, none⟩ = some (.slice Az Bz.length cz) := by rw [cell_of_row _ _ _ _ _ _ hkz]; rfl
    clear hb hkz
    go_wp2_with fail
    refine (awake_any w1).mono ?_
    rintro e w2 ⟨rfl, hb⟩
    have HB2 := Aside0.mk (HB1.out.trans (hb.mono HB1.out.size))
    clear hb
    go_wp2_with fail
    go_ret
    exact ⟨rfl, HB2.out⟩
  have d1 : decide ((140000 : Int) < (Bz.length : Int)) = false := by simp; omega
  have hbl2 : Bz.length ≤ 140000 := by omega
  clear hbl
  have hLL := wRun_len ops ops.length
  rw [List.take_length] at hLL
  go_enter Try.func9, Try.ntmps9
  go_wp2_with fail
  rw [← HZBW.out, ← HZBB.out]
  refine HF.out.mono ?_
  rintro e w0 ⟨rfl, hb⟩
  have HB0 := Aside0.mk (HBZ.out.trans (hb.mono HBZ.out.size))
  have HO0 := Aside0.mk (HO.out.below hb)
  have hkz := blk_fr HZBK.out (Fr.below hb (fun _ => False)) (fun h => h)
  have HKZ := Aside0.mk hkz
  have z00 : w0.cell? ⟨bz, 0, none⟩ = some (Value.int .u8 (kz : Int)) := by rw [cell_of_row _ _ _ _ _ _ hkz]; rfl
  have z01 : w0.cell? ⟨bz, 1, none⟩ = some (.int .i64 vz) := by rw [cell_of_row _ _ _ _ _ _ hkz]; rfl
  have z02 : w0.cell? ⟨bz, 2, none⟩ = some (.int .i64 nz) := by rw [cell_of_row _ _ _ _ _ _ hkz]; rfl
  have z03 : w0.cell? ⟨bz, 3, none⟩ = some (.slice Az Bz.length cz) := by rw [cell_of_row _ _ _ _ _ _ hkz]; rfl
  have HS0 := Aside0.mk hb.size
  clear hb hkz
  go_wp2_with fail
  refine (written_any X c ops w0 HO0.out HFE.out).mono ?_
  rintro e w1 ⟨p, S, v, rfl, hW, hS, hp, hOut, hb⟩
  generalize hLD : wRun ops = L at *
  have HB1 := Aside0.mk (HB0.out.trans (hb.mono HB0.out.size))
  have HW1 := Aside0.mk hW
  have HS := Aside0.mk hS
  have HP := Aside0.mk hp
  have HPW := Aside0.mk (Nat.le_trans HB0.out.size hp)
  have H01 := Aside0.mk hW.bits
  have hpl : (pk L).length ≤ 131072 := by rw [pk_length]; omega
  have HPL := Aside0.mk (pk_length L)
  have HKZ1 := Aside0.mk (blk_fr HKZ.out (Fr.below hb (fun _ => False)) (fun h => h))
  clear hW hS hp hOut hb hLD
  go_wp2_with fail
  refine (Len_any S p L w1 HW1.out).mono ?_
  rintro e w3 ⟨rfl, hw3⟩
  obtain rfl := hw3.symm
  go_wp2_with fail
  refine (Bytes_any S p L w1 HW1.out hLL).mono ?_
  rintro e w2 ⟨v2, S2, rfl, hr2, hs2, hb2⟩
  obtain ⟨A2, c2, ev, hcap2, hC2⟩ := Kd.R_reads hr2
  subst ev
  have HC2 := Aside0.mk hC2
  have HR2 := Aside0.mk hr2
  have HS2 := Aside0.mk hs2
  have HB2 := Aside0.mk (HB1.out.trans (hb2.mono HB1.out.size))
  have HW2 := Aside0.mk (HW1.out.below hb2)
  have HWLT := Aside0.mk HW1.out.lt
  have HPLT := Aside0.mk HW1.out.p_lt
  have hkz := blk_fr HKZ1.out (Fr.below hb2 (fun _ => False)) (fun h => h)
  have HKZ2 := Aside0.mk hkz
  have z20 : w2.cell? ⟨bz, 0, none⟩ = some (Value.int .u8 (kz : Int)) := by rw [cell_of_row _ _ _ _ _ _ hkz]; rfl
  have z21 : w2.cell? ⟨bz, 1, none⟩ = some (.int .i64 vz) := by rw [cell_of_row _ _ _ _ _ _ hkz]; rfl
  have z22 : w2.cell? ⟨bz, 2, none⟩ = some (.int .i64 nz) := by rw [cell_of_row _ _ _ _ _ _ hkz]; rfl
  have z23 : w2.cell? ⟨bz, 3, none⟩ = some (.slice Az Bz.length cz) := by rw [cell_of_row _ _ _ _ _ _ hkz]; rfl
  have HWR := Aside0.mk (write_any S p L ⟨kz, vz, nz, Az, cz, Bz⟩ w2 HW2.out hLL (HZ.out.below HB2.out) hbl2 (fun ad e hn hh => by
    have h1 := HZ.out.blk ad e hn
    have h2 := HPW.out
    rcases hh with q | q
    · omega
    · have h3 := HS.out _ q
      have h4 := HB0.out.size
      omega))
  have hoe : openE (pk L) (L.length : Int) = 0 := by unfold openE; rw [if_neg (by have := HPL.out; omega), if_neg (by omega)]
  have hop : ∀ W, Kd.C (Kd.int .u8) W A2 (pk L).length (pk L) → Calls Try.prog 27 #[.slice A2 (pk L).length c2, .int .i64 (L.length : Int)] W fun e w' => ∃ p S, e = .returned (.tuple #[.pointer (some ⟨p, 0, none⟩), .int .i64 0]) ∧ Rd w' S p L 0 ∧ W.heap.size ≤ p ∧ (∀ k, S k → W.heap.size ≤ k) ∧ Below W.heap.size W w' := fun W hC => (Open_any A2 c2 (pk L) (L.length : Int) W hC (pk_is8 H01.out) (by omega) hcap2).mono fun e w' q => by
    unfold OpenPost at q
    rw [if_pos hoe, Int.toNat_natCast, ofB_pk_all H01.out] at q
    exact q
  have HOP := Aside0.mk hop
  generalize hZW : wOp L ⟨kz, vz, nz, Az, cz, Bz⟩ = zw at *
  obtain ⟨ez, LZ⟩ := zw
  have HERR := Aside0.mk (fun h => wOp_err L ⟨kz, vz, nz, Az, cz, Bz⟩ h)
  rw [hZW] at HERR
  dsimp only at HERR HWR
  clear hr2 hs2 hb2 hC2 HW1 hop hoe hcap2 hkz hZW
  go_wp2_with fail
  refine HWR.out.mono ?_
  rintro e w3 ⟨rfl, hW3⟩
  have hB3 : Below w.heap.size w w3 := HB2.out.trans (by
    obtain ⟨_, _, _, f⟩ := hW3
    exact f.to_below HB2.out.size (fun j hj => by
      rcases hj with rfl | q
      · exact HPW.out
      · exact Nat.le_trans HB0.out.size (HS.out j q)))
  have hC3 : Kd.C (Kd.int .u8) w3 A2 (pk L).length (pk L) := by
    obtain ⟨_, _, _, f⟩ := hW3
    exact C_fr HC2.out f (fun ad e hn hh => by
      obtain ⟨g, c', ev, hg⟩ := own_addr HR2.out hn
      injection ev with ev1 _ _
      rw [e] at ev1
      injection ev1 with ev1
      subst ev1
      have h1 := HS2.out _ hg
      rcases hh with q | q
      · have h2 := HPLT.out; dsimp only at q; omega
      · have h2 : g < w1.heap.size := HWLT.out _ q; omega)
  obtain ⟨S3, hW3', _, _⟩ := hW3
  have HB3 := Aside0.mk hB3
  have HC3 := Aside0.mk hC3
  have HW3 := Aside0.mk hW3'
  clear hB3 hC3 hW3' HB2 HC2 HR2 HS2 HW2 HWLT HPLT HWR
  by_cases hee : ez = 0
  · subst hee
    have HCW := HC3
    have HBW := HB3
    have HOW := HOO
    clear HERR HW3
    go_wp2_with fail
    refine (HOP.out w3 HCW.out).mono ?_
    rintro e w6 ⟨r, SR, rfl, hRd, hr, hSR, hb⟩
    have HRI0 : Aside0 (RdIn w w6 SR r L 0) := ⟨⟨hRd, Nat.le_trans HBW.out.size hr, HBW.out.trans (hb.mono HBW.out.size)⟩⟩
    have HBO := Aside0.mk (show Below w.heap.size w w6 from HBW.out.trans (hb.mono HBW.out.size))
    clear hRd hr hSR hb HOP HCW HBW
    go_wp2_with fail
    go_loopw [61] (fun i wr => ∃ k a : Nat, i = .int .i64 (k : Int) ∧ k ≤ ops.length ∧ Aside0 (RdIn w wr SR r L a)) (fun i _ => ops.length - (intOf i).toNat)
    case atStart => exact ⟨0, 0, rfl, Nat.zero_le _, HRI0⟩
    case round =>
      obtain ⟨k, a, rfl, hk, HRI⟩ := hrel
      by_cases hlt : k < ops.length
      · have hOr := HOW.out.below HRI.out.bel
        obtain ⟨x0, e, h0, h1, h2, h3⟩ := hOr.cells k hlt
        subst e
        have hok := hOr.ok ops[k] (List.getElem_mem hlt)
        have hokk := hok.kind
        have hokv := hok.v
        have hokn := hok.n
        generalize ops[k] = o at *
        obtain ⟨x, M, er, b, hr4⟩ : ∃ x M er b, rOp L a o = (x, M, er, b) := ⟨_, _, _, _, rfl⟩
        have hMl : M.length ≤ L.length := by have := rOp_len L a o; rw [hr4] at this; exact this
        have hal := HRI.out.rd.at_le
        have hread := fun W h => read_as SR r a L o W h hokk hokv hokn x er M b hr4
        have herr := rOp_err L a o x er M b hr4
        have hpk : (pk M).length ≤ 1000000000 := by rw [pk_length]; omega
        clear hOr hok hokk hokv hokn hr4 hMl
        obtain ⟨kind, v, n, A, co, B⟩ := o
        dsimp only [OpD.val] at *
        have HREAD := Aside0.mk hread
        have HPK := Aside0.mk hpk
        clear hread
        obtain ⟨wx, hwx⟩ : ∃ wx, wx = wr.alloc (.cells #[.int .u8 (kind : Int), .int .i64 v, .int .i64 n, .slice A B.length co] 41) := ⟨_, rfl⟩
        have hkbx : wx.heap[wr.heap.size]? = some (.cells #[.int .u8 (kind : Int), .int .i64 v, .int .i64 n, .slice A B.length co] 41 (0, 0)) := by rw [hwx]; exact World.alloc_heap_new wr _
        have hbbx : Below wr.heap.size wr wx := by rw [hwx]; exact below_alloc (Below.refl _ _) _
        obtain ⟨bx, hbx⟩ : ∃ bx, bx = wr.heap.size := ⟨_, rfl⟩
        rw [← hbx] at hkbx
        have HXW := Aside0.mk hwx
        have HXB := Aside0.mk hbx
        have HXK := Aside0.mk hkbx
        have HXL := Aside0.mk hbbx
        clear hwx hbx hkbx hbbx
        have HRIx := Aside0.mk (HRI.out.below HXL.out)
        have hkx := HXK.out
        have x0 : wx.cell? ⟨bx, 0, none⟩ = some (Value.int .u8 (kind : Int)) := by rw [cell_of_row _ _ _ _ _ _ hkx]; rfl
        have x1 : wx.cell? ⟨bx, 1, none⟩ = some (.int .i64 v) := by rw [cell_of_row _ _ _ _ _ _ hkx]; rfl
        have x2 : wx.cell? ⟨bx, 2, none⟩ = some (.int .i64 n) := by rw [cell_of_row _ _ _ _ _ _ hkx]; rfl
        have x3 : wx.cell? ⟨bx, 3, none⟩ = some (.slice A B.length co) := by rw [cell_of_row _ _ _ _ _ _ hkx]; rfl
        clear hkx
        go_wp2_with fail
        rw [← HXW.out, ← HXB.out]
        go_wp2_with fail
        refine (At_any SR r a L wx HRIx.out.rd).mono ?_
        rintro e w7 ⟨rfl, hw7⟩
        obtain rfl := hw7.symm
        go_wp2_with fail
        refine (HREAD.out wx HRIx.out.rd).mono ?_
        rintro e w8 ⟨A1, c1, rfl, hC1, hA1, hrd, hf⟩
        have HR8 := Aside0.mk (HRIx.out.step hrd hf)
        have hbL := hrd.at_le
        clear hC1 hA1 hrd hf HREAD
        by_cases hee : er = 0
        · subst hee
          clear herr
          generalize (pk M).length = ml at *
          obtain ⟨wy, hwy⟩ : ∃ wy, wy = w8.alloc (.cells #[.int .i64 x, .slice A1 ml c1, .int .i64 0, .int .i64 (b : Int), .int .i64 ((L.length : Int) - (b : Int))] 65) := ⟨_, rfl⟩
          have hkby_ : wy.heap[w8.heap.size]? = some (.cells #[.int .i64 x, .slice A1 ml c1, .int .i64 0, .int .i64 (b : Int), .int .i64 ((L.length : Int) - (b : Int))] 65 (0, 0)) := by rw [hwy]; exact World.alloc_heap_new w8 _
          have hbby_ : Below w8.heap.size w8 wy := by rw [hwy]; exact below_alloc (Below.refl _ _) _
          obtain ⟨by_, hby_⟩ : ∃ by_, by_ = w8.heap.size := ⟨_, rfl⟩
          rw [← hby_] at hkby_
          have HYW := Aside0.mk hwy
          have HYB := Aside0.mk hby_
          have HYK := Aside0.mk hkby_
          have HYL := Aside0.mk hbby_
          clear hwy hby_ hkby_ hbby_
          have HRIy := Aside0.mk (HR8.out.below HYL.out)
          have hky := HYK.out
          have y0 : wy.cell? ⟨by_, 0, none⟩ = some (.int .i64 x) := by rw [cell_of_row _ _ _ _ _ _ hky]; rfl
          have y1 : wy.cell? ⟨by_, 1, none⟩ = some (.slice A1 ml c1) := by rw [cell_of_row _ _ _ _ _ _ hky]; rfl
          have y2 : wy.cell? ⟨by_, 2, none⟩ = some (.int .i64 0) := by rw [cell_of_row _ _ _ _ _ _ hky]; rfl
          have y3 : wy.cell? ⟨by_, 3, none⟩ = some (.int .i64 (b : Int)) := by rw [cell_of_row _ _ _ _ _ _ hky]; rfl
          have y4 : wy.cell? ⟨by_, 4, none⟩ = some (.int .i64 ((L.length : Int) - (b : Int))) := by rw [cell_of_row _ _ _ _ _ _ hky]; rfl
          clear hky
          have hsum : (b : Int) + ((L.length : Int) - (b : Int)) = (L.length : Int) := by omega
          have hsw : IntKind.i64.wrap ((b : Int) + ((L.length : Int) - (b : Int))) = (L.length : Int) := by rw [hsum]; exact IntWalk.i64_in _ (by omega)
          go_wp2_with fail
          go_roundw
          case rel => exact ⟨k + 1, b, by go_num, by omega, ⟨by rw [← HYW.out]; exact HRIy.out⟩⟩
          case measure => simp [intOf]; omega
        · obtain ⟨e1, e2, e3⟩ := herr hee
          subst e1 e2 e3
          have q1 : (er != 0) = true := bne_iff_ne.2 hee
          simp only [pk_nil, List.length_nil] at *
          obtain ⟨wy, hwy⟩ : ∃ wy, wy = w8.alloc (.cells #[.int .i64 0, .slice A1 0 c1, .int .i64 er, .int .i64 (b : Int), .int .i64 ((L.length : Int) - (b : Int))] 65) := ⟨_, rfl⟩
          have hkby_ : wy.heap[w8.heap.size]? = some (.cells #[.int .i64 0, .slice A1 0 c1, .int .i64 er, .int .i64 (b : Int), .int .i64 ((L.length : Int) - (b : Int))] 65 (0, 0)) := by rw [hwy]; exact World.alloc_heap_new w8 _
          have hbby_ : Below w8.heap.size w8 wy := by rw [hwy]; exact below_alloc (Below.refl _ _) _
          obtain ⟨by_, hby_⟩ : ∃ by_, by_ = w8.heap.size := ⟨_, rfl⟩
          rw [← hby_] at hkby_
          have HYW := Aside0.mk hwy
          have HYB := Aside0.mk hby_
          have HYK := Aside0.mk hkby_
          have HYL := Aside0.mk hbby_
          clear hwy hby_ hkby_ hbby_
          have HRIy := Aside0.mk (HR8.out.below HYL.out)
          have hky := HYK.out
          have y0 : wy.cell? ⟨by_, 0, none⟩ = some (.int .i64 0) := by rw [cell_of_row _ _ _ _ _ _ hky]; rfl
          have y1 : wy.cell? ⟨by_, 1, none⟩ = some (.slice A1 0 c1) := by rw [cell_of_row _ _ _ _ _ _ hky]; rfl
          have y2 : wy.cell? ⟨by_, 2, none⟩ = some (.int .i64 er) := by rw [cell_of_row _ _ _ _ _ _ hky]; rfl
          have y3 : wy.cell? ⟨by_, 3, none⟩ = some (.int .i64 (b : Int)) := by rw [cell_of_row _ _ _ _ _ _ hky]; rfl
          have y4 : wy.cell? ⟨by_, 4, none⟩ = some (.int .i64 ((L.length : Int) - (b : Int))) := by rw [cell_of_row _ _ _ _ _ _ hky]; rfl
          clear hky
          have hsum : (b : Int) + ((L.length : Int) - (b : Int)) = (L.length : Int) := by omega
          have hsw : IntKind.i64.wrap ((b : Int) + ((L.length : Int) - (b : Int))) = (L.length : Int) := by rw [hsum]; exact IntWalk.i64_in _ (by omega)
          go_wp2_with fail
          go_roundw
          case rel => exact ⟨k + 1, b, by go_num, by omega, ⟨by rw [← HYW.out]; exact HRIy.out⟩⟩
          case measure => simp [intOf]; omega
      · obtain rfl : k = ops.length := by omega
        have HBl := Aside0.mk HRI.out.bel
        clear HRI
        go_wp2_with fail
        refine (awake_any wr).mono ?_
        rintro e w9 ⟨rfl, hb⟩
        have HB9 := Aside0.mk (HBl.out.trans (hb.mono HBl.out.size))
        clear hb
        go_wp2_with fail
        go_ret
        exact ⟨rfl, HB9.out⟩
  · obtain rfl := (HERR.out hee).symm
    have q0 : (ez != 0) = true := bne_iff_ne.2 hee
    go_wp2_with fail
    refine (Len_any S3 p L w3 HW3.out).mono ?_
    rintro e w4 ⟨rfl, hw4⟩
    obtain rfl := hw4.symm
    go_wp2_with fail
    refine (Bytes_any S3 p L w3 HW3.out hLL).mono ?_
    rintro e w4 ⟨v4, S4, rfl, hr4, hs4, hb4⟩
    obtain ⟨A4, c4, ev, _, hC4⟩ := Kd.R_reads hr4
    subst ev
    have HB4 := Aside0.mk (HB3.out.trans (hb4.mono HB3.out.size))
    have HC4 := Aside0.mk hC4
    have HC34 := Aside0.mk (Kd.C_below HC3.out hb4)
    clear hr4 hs4 hb4 hC4 HW3
    go_wp2_with fail
    have cc := Same_any A4 A2 (pk L).length (pk L).length c4 c2 (pk L) (pk L) w4 HC4.out HC34.out (by omega) (by omega)
    rw [decide_eq_true rfl] at cc
    refine cc.mono ?_
    clear cc
    rintro e w5 ⟨rfl, hd⟩
    have HBW := Aside0.mk (HB4.out.trans (hd.below.mono HB4.out.size))
    have HCW := Aside0.mk (Kd.C_below HC34.out hd.below)
    have HOW := HOO
    clear hd HB4 HC4 HC34 HERR
    go_wp2_with fail
    refine (HOP.out w5 HCW.out).mono ?_
    rintro e w6 ⟨r, SR, rfl, hRd, hr, hSR, hb⟩
    have HRI0 : Aside0 (RdIn w w6 SR r L 0) := ⟨⟨hRd, Nat.le_trans HBW.out.size hr, HBW.out.trans (hb.mono HBW.out.size)⟩⟩
    have HBO := Aside0.mk (show Below w.heap.size w w6 from HBW.out.trans (hb.mono HBW.out.size))
    clear hRd hr hSR hb HOP HCW HBW
    go_wp2_with fail
    go_loopw [61] (fun i wr => ∃ k a : Nat, i = .int .i64 (k : Int) ∧ k ≤ ops.length ∧ Aside0 (RdIn w wr SR r L a)) (fun i _ => ops.length - (intOf i).toNat)
    case atStart => exact ⟨0, 0, rfl, Nat.zero_le _, HRI0⟩
    case round =>
      obtain ⟨k, a, rfl, hk, HRI⟩ := hrel
      by_cases hlt : k < ops.length
      · have hOr := HOW.out.below HRI.out.bel
        obtain ⟨x0, e, h0, h1, h2, h3⟩ := hOr.cells k hlt
        subst e
        have hok := hOr.ok ops[k] (List.getElem_mem hlt)
        have hokk := hok.kind
        have hokv := hok.v
        have hokn := hok.n
        generalize ops[k] = o at *
        obtain ⟨x, M, er, b, hr4⟩ : ∃ x M er b, rOp L a o = (x, M, er, b) := ⟨_, _, _, _, rfl⟩
        have hMl : M.length ≤ L.length := by have := rOp_len L a o; rw [hr4] at this; exact this
        have hal := HRI.out.rd.at_le
        have hread := fun W h => read_as SR r a L o W h hokk hokv hokn x er M b hr4
        have herr := rOp_err L a o x er M b hr4
        have hpk : (pk M).length ≤ 1000000000 := by rw [pk_length]; omega
        clear hOr hok hokk hokv hokn hr4 hMl
        obtain ⟨kind, v, n, A, co, B⟩ := o
        dsimp only [OpD.val] at *
        have HREAD := Aside0.mk hread
        have HPK := Aside0.mk hpk
        clear hread
        obtain ⟨wx, hwx⟩ : ∃ wx, wx = wr.alloc (.cells #[.int .u8 (kind : Int), .int .i64 v, .int .i64 n, .slice A B.length co] 41) := ⟨_, rfl⟩
        have hkbx : wx.heap[wr.heap.size]? = some (.cells #[.int .u8 (kind : Int), .int .i64 v, .int .i64 n, .slice A B.length co] 41 (0, 0)) := by rw [hwx]; exact World.alloc_heap_new wr _
        have hbbx : Below wr.heap.size wr wx := by rw [hwx]; exact below_alloc (Below.refl _ _) _
        obtain ⟨bx, hbx⟩ : ∃ bx, bx = wr.heap.size := ⟨_, rfl⟩
        rw [← hbx] at hkbx
        have HXW := Aside0.mk hwx
        have HXB := Aside0.mk hbx
        have HXK := Aside0.mk hkbx
        have HXL := Aside0.mk hbbx
        clear hwx hbx hkbx hbbx
        have HRIx := Aside0.mk (HRI.out.below HXL.out)
        have hkx := HXK.out
        have x0 : wx.cell? ⟨bx, 0, none⟩ = some (Value.int .u8 (kind : Int)) := by rw [cell_of_row _ _ _ _ _ _ hkx]; rfl
        have x1 : wx.cell? ⟨bx, 1, none⟩ = some (.int .i64 v) := by rw [cell_of_row _ _ _ _ _ _ hkx]; rfl
        have x2 : wx.cell? ⟨bx, 2, none⟩ = some (.int .i64 n) := by rw [cell_of_row _ _ _ _ _ _ hkx]; rfl
        have x3 : wx.cell? ⟨bx, 3, none⟩ = some (.slice A B.length co) := by rw [cell_of_row _ _ _ _ _ _ hkx]; rfl
        clear hkx
        go_wp2_with fail
        rw [← HXW.out, ← HXB.out]
        go_wp2_with fail
        refine (At_any SR r a L wx HRIx.out.rd).mono ?_
        rintro e w7 ⟨rfl, hw7⟩
        obtain rfl := hw7.symm
        go_wp2_with fail
        refine (HREAD.out wx HRIx.out.rd).mono ?_
        rintro e w8 ⟨A1, c1, rfl, hC1, hA1, hrd, hf⟩
        have HR8 := Aside0.mk (HRIx.out.step hrd hf)
        have hbL := hrd.at_le
        clear hC1 hA1 hrd hf HREAD
        by_cases hee : er = 0
        · subst hee
          clear herr
          generalize (pk M).length = ml at *
          obtain ⟨wy, hwy⟩ : ∃ wy, wy = w8.alloc (.cells #[.int .i64 x, .slice A1 ml c1, .int .i64 0, .int .i64 (b : Int), .int .i64 ((L.length : Int) - (b : Int))] 65) := ⟨_, rfl⟩
          have hkby_ : wy.heap[w8.heap.size]? = some (.cells #[.int .i64 x, .slice A1 ml c1, .int .i64 0, .int .i64 (b : Int), .int .i64 ((L.length : Int) - (b : Int))] 65 (0, 0)) := by rw [hwy]; exact World.alloc_heap_new w8 _
          have hbby_ : Below w8.heap.size w8 wy := by rw [hwy]; exact below_alloc (Below.refl _ _) _
          obtain ⟨by_, hby_⟩ : ∃ by_, by_ = w8.heap.size := ⟨_, rfl⟩
          rw [← hby_] at hkby_
          have HYW := Aside0.mk hwy
          have HYB := Aside0.mk hby_
          have HYK := Aside0.mk hkby_
          have HYL := Aside0.mk hbby_
          clear hwy hby_ hkby_ hbby_
          have HRIy := Aside0.mk (HR8.out.below HYL.out)
          have hky := HYK.out
          have y0 : wy.cell? ⟨by_, 0, none⟩ = some (.int .i64 x) := by rw [cell_of_row _ _ _ _ _ _ hky]; rfl
          have y1 : wy.cell? ⟨by_, 1, none⟩ = some (.slice A1 ml c1) := by rw [cell_of_row _ _ _ _ _ _ hky]; rfl
          have y2 : wy.cell? ⟨by_, 2, none⟩ = some (.int .i64 0) := by rw [cell_of_row _ _ _ _ _ _ hky]; rfl
          have y3 : wy.cell? ⟨by_, 3, none⟩ = some (.int .i64 (b : Int)) := by rw [cell_of_row _ _ _ _ _ _ hky]; rfl
          have y4 : wy.cell? ⟨by_, 4, none⟩ = some (.int .i64 ((L.length : Int) - (b : Int))) := by rw [cell_of_row _ _ _ _ _ _ hky]; rfl
          clear hky
          have hsum : (b : Int) + ((L.length : Int) - (b : Int)) = (L.length : Int) := by omega
          have hsw : IntKind.i64.wrap ((b : Int) + ((L.length : Int) - (b : Int))) = (L.length : Int) := by rw [hsum]; exact IntWalk.i64_in _ (by omega)
          go_wp2_with fail
          go_roundw
          case rel => exact ⟨k + 1, b, by go_num, by omega, ⟨by rw [← HYW.out]; exact HRIy.out⟩⟩
          case measure => simp [intOf]; omega
        · obtain ⟨e1, e2, e3⟩ := herr hee
          subst e1 e2 e3
          have q1 : (er != 0) = true := bne_iff_ne.2 hee
          simp only [pk_nil, List.length_nil] at *
          obtain ⟨wy, hwy⟩ : ∃ wy, wy = w8.alloc (.cells #[.int .i64 0, .slice A1 0 c1, .int .i64 er, .int .i64 (b : Int), .int .i64 ((L.length : Int) - (b : Int))] 65) := ⟨_, rfl⟩
          have hkby_ : wy.heap[w8.heap.size]? = some (.cells #[.int .i64 0, .slice A1 0 c1, .int .i64 er, .int .i64 (b : Int), .int .i64 ((L.length : Int) - (b : Int))] 65 (0, 0)) := by rw [hwy]; exact World.alloc_heap_new w8 _
          have hbby_ : Below w8.heap.size w8 wy := by rw [hwy]; exact below_alloc (Below.refl _ _) _
          obtain ⟨by_, hby_⟩ : ∃ by_, by_ = w8.heap.size := ⟨_, rfl⟩
          rw [← hby_] at hkby_
          have HYW := Aside0.mk hwy
          have HYB := Aside0.mk hby_
          have HYK := Aside0.mk hkby_
          have HYL := Aside0.mk hbby_
          clear hwy hby_ hkby_ hbby_
          have HRIy := Aside0.mk (HR8.out.below HYL.out)
          have hky := HYK.out
          have y0 : wy.cell? ⟨by_, 0, none⟩ = some (.int .i64 0) := by rw [cell_of_row _ _ _ _ _ _ hky]; rfl
          have y1 : wy.cell? ⟨by_, 1, none⟩ = some (.slice A1 0 c1) := by rw [cell_of_row _ _ _ _ _ _ hky]; rfl
          have y2 : wy.cell? ⟨by_, 2, none⟩ = some (.int .i64 er) := by rw [cell_of_row _ _ _ _ _ _ hky]; rfl
          have y3 : wy.cell? ⟨by_, 3, none⟩ = some (.int .i64 (b : Int)) := by rw [cell_of_row _ _ _ _ _ _ hky]; rfl
          have y4 : wy.cell? ⟨by_, 4, none⟩ = some (.int .i64 ((L.length : Int) - (b : Int))) := by rw [cell_of_row _ _ _ _ _ _ hky]; rfl
          clear hky
          have hsum : (b : Int) + ((L.length : Int) - (b : Int)) = (L.length : Int) := by omega
          have hsw : IntKind.i64.wrap ((b : Int) + ((L.length : Int) - (b : Int))) = (L.length : Int) := by rw [hsum]; exact IntWalk.i64_in _ (by omega)
          go_wp2_with fail
          go_roundw
          case rel => exact ⟨k + 1, b, by go_num, by omega, ⟨by rw [← HYW.out]; exact HRIy.out⟩⟩
          case measure => simp [intOf]; omega
      · obtain rfl : k = ops.length := by omega
        have HBl := Aside0.mk HRI.out.bel
        clear HRI
        go_wp2_with fail
        refine (awake_any wr).mono ?_
        rintro e w9 ⟨rfl, hb⟩
        have HB9 := Aside0.mk (HBl.out.trans (hb.mono HBl.out.size))
        clear hb
        go_wp2_with fail
        go_ret
        exact ⟨rfl, HB9.out⟩

end Go.Proofs.Ytmjekkkpbcehoaa.P
