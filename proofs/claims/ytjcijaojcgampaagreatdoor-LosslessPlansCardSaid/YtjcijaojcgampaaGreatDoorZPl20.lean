/- The contract of rice.Read. What was written is read again: the plain law. -/
import Derived.WalkMore
import Derived.Deep.LoopGhost
import Derived.Test.YtjcijaojcgampaaGreatDoorZPl19
import Derived.Test.YtjcijaojcgampaaGreatDoorZPl16
set_option linter.unusedVariables false
set_option linter.unusedSimpArgs false
set_option maxHeartbeats 16000000
set_option maxRecDepth 100000
section
namespace Go.Proofs.YtjcijaojcgampaaGreatDoor.P
open Go.RowKit Go.Shelf Go.Proofs.YtjcijaojcgampaaGreatDoor.Bits Go.Proofs.YtjcijaojcgampaaGreatDoorW.PrintWords Go.Proofs.YtjcijaojcgampaaGreatDoorW.PrintLast Go.Proofs.YtjcijaojcgampaaGreatDoorW.PrintMore
attribute [local go_sem ↓] Go.wp_at_zero Go.wp_at_succ
theorem Rd.notint {w : World} {S : Nat → Prop} {p a : Nat} {L : List Int} (h : Rd w S p L a) : ∀ k cs, k = p → k < w.heap.size → w.heap[k]? ≠ some (.cells cs 3 (0, 0)) := by
  rintro k cs rfl _ he
  obtain ⟨v, B, hb, _⟩ := h.blk
  rw [hb] at he
  cases he
theorem Rd.row {w w5 : World} {S : Nat → Prop} {p a base : Nat} {L l : List Int} {v : Value} (h : Rd w S p L a) (hv : RowV w base 3 1 v l.length (flatI l)) (hf : Fr (fun k => v.ownBlock = some k) w w5) : Rd w5 S p L a := by
  refine h.fr hf (fun e => ?_) (fun k hk e => ?_)
  · obtain ⟨⟨cs, hc⟩, _⟩ := hv.block p e
    obtain ⟨u, B, hb, _⟩ := h.blk
    rw [hc] at hb
    cases hb
  · obtain ⟨⟨cs, hc⟩, _⟩ := hv.block k e
    obtain ⟨cs', hb⟩ := h.typed k hk
    rw [hc] at hb
    cases hb
def LReadPost (w : World) (S : Nat → Prop) (p : Nat) (L : List Int) (r : List Int × Int × Nat) (e : Ending) (w' : World) : Prop :=
  ∃ v, e = .returned (.tuple #[v, .int .i64 r.2.1]) ∧ RowV w' w.heap.size 3 1 v r.1.length (flatI r.1) ∧ Rd w' S p L r.2.2 ∧ Fr (fun k => k = p) w w'
structure Box (w W : World) (S : Nat → Prop) (p g : Nat) (L : List Int) (a : Nat) (er : Int) : Prop where
  rd : Rd W S p L a
  fr : Fr (fun k => k = p) w W
  blk : W.heap[g]? = some (errBox er)
theorem Box.set {w W : World} {S : Nat → Prop} {p g a : Nat} {L : List Int} {er er' : Int} (h : Box w W S p g L a er) (hg : w.heap.size ≤ g) (hp : p < w.heap.size) (hS : ∀ k, S k → k < w.heap.size) : Box w (W.setCell ⟨g, 0, none⟩ (.int .i64 er')) S p g L a er' := by
  have hs : Fr (fun k => k = g) W (W.setCell ⟨g, 0, none⟩ (.int .i64 er')) := Fr.setCell (S := fun k => k = g) (Fr.refl _ _) (p := ⟨g, 0, none⟩) (fun _ => rfl) _
  exact ⟨h.rd.fr hs (by omega) (fun k hk => by have := hS k hk; omega), h.fr.next hs (fun i hi h => by omega), by rw [heap_setCell_same _ _ _ _ _ _ h.blk]; rfl⟩
theorem Box.drew {w W : World} {S : Nat → Prop} {p g a : Nat} {L : List Int} {er : Int} (h : Box w W S p g L a er) : Box w W.drew S p g L a er := ⟨h.rd.below (below_drew (Below.refl _ _)), h.fr.drew, h.blk⟩
theorem Box.read {w W W' : World} {S : Nat → Prop} {p g a b : Nat} {L : List Int} {er : Int} (h : Box w W S p g L a er) (hg : g ≠ p) (hr : Rd W' S p L b) (hf : Fr (fun k => k = p) W W') : Box w W' S p g L b er := ⟨hr, h.fr.trans hf, blk_fr h.blk hf hg⟩
theorem Box.cell {w W : World} {S : Nat → Prop} {p g a : Nat} {L : List Int} {er : Int} (h : Box w W S p g L a er) : W.cell? ⟨g, 0, none⟩ = some (.int .i64 er) := cell_of_one h.blk
theorem Box.free {w W : World} {S : Nat → Prop} {p g a : Nat} {L : List Int} {er : Int} (h : Box w W S p g L a er) : W.frozen? ⟨g, 0, none⟩ = false := blk_frozen h.blk 0
theorem Box.more {w W w5 : World} {S : Nat → Prop} {p g a : Nat} {L l : List Int} {v : Value} {er : Int} {o : Obj} (h : Box w W S p g L a er) (hv : RowV W w.heap.size 3 1 v l.length (flatI l)) (hg : (W.alloc o).grownBy w5 v.ownBlock) : Box w w5 S p g L a er := by
  obtain ⟨h1, h2⟩ := row_more h.fr hv hg
  refine ⟨h.rd.row hv h2, h1, blk_fr h.blk h2 (fun e => ?_)⟩
  obtain ⟨⟨cs, hc⟩, _⟩ := hv.block g e
  have hb := h.blk
  rw [hc] at hb
  cases hb
theorem Read_any5 (S : Nat → Prop) (p a : Nat) (count : Int) (L : List Int) (w : World) (hR : Rd w S p L a) :
    Calls Tryz.prog 154 #[.pointer (some ⟨p, 0, none⟩), .int .i64 count] w (LReadPost w S p L (fRead L a count)) := by
  have hpl := hR.p_lt
  have hal := hR.at_le
  have h01 := hR.bits
  have HFR : Aside0 (fRead L a count = if count < 0 ∨ 8192 < count then ([], 1, a) else if (rList L a count.toNat).1 ≠ 0 then ([], (rList L a count.toNat).1, a) else ((rList L a count.toNat).2.1, 0, (rList L a count.toNat).2.2)) := ⟨rfl⟩
  generalize fRead L a count = fr at *
  have HX1 : Aside0 (Rd (w.alloc (errBox 1)) S p L a) := ⟨hR.below (below_alloc (Below.refl _ _) _)⟩
  have HSL := Aside0.mk (fun k (h : S k) => hR.lt k h)
  by_cases h1 : count < 0
  · rw [if_pos (.inl h1)] at HFR
    have d1 : decide (count < 0) = true := by simpa using h1
    clear h1
    go_enter_defers Tryz.func154, Tryz.ntmps154
    go_wp2_with fail
    go_step3
    go_wp2_with fail
    (try rw [Exit.noGoto_ret])
    refine ⟨_, results_tc rfl _ _ ⟨w.heap.size, 0, none⟩ .i64 1 rfl (cell_of_one (World.alloc_heap_new w (errBox 1))) Tryz.underlying24, ?_⟩
    unfold LReadPost
    rw [HFR.out]
    exact ⟨_, rfl, World.ownsRow_nil _ _ _ _, HX1.out, Fr.below (below_alloc (Below.refl _ _) _) _⟩
  have d1 : decide (count < 0) = false := by simpa using h1
  by_cases h2 : 8192 < count
  · rw [if_pos (.inr h2)] at HFR
    have d2 : decide (8192 < count) = true := by simpa using h2
    clear h2
    go_enter_defers Tryz.func154, Tryz.ntmps154
    go_wp2_with fail
    go_step3
    go_wp2_with fail
    (try rw [Exit.noGoto_ret])
    refine ⟨_, results_tc rfl _ _ ⟨w.heap.size, 0, none⟩ .i64 1 rfl (cell_of_one (World.alloc_heap_new w (errBox 1))) Tryz.underlying24, ?_⟩
    unfold LReadPost
    rw [HFR.out]
    exact ⟨_, rfl, World.ownsRow_nil _ _ _ _, HX1.out, Fr.below (below_alloc (Below.refl _ _) _) _⟩
  have d2 : decide (8192 < count) = false := by simpa using h2
  rw [if_neg (by omega)] at HFR
  obtain ⟨m, rfl⟩ : ∃ m : Nat, count = m := ⟨count.toNat, by omega⟩
  rw [Int.toNat_natCast] at HFR
  have hm8 : m ≤ 8192 := by omega
  obtain ⟨w1, hw1⟩ : ∃ w1, w1 = w.alloc (errBox 0) := ⟨_, rfl⟩
  obtain ⟨g, hg⟩ : ∃ g, g = w.heap.size := ⟨_, rfl⟩
  have hb1 : Below w.heap.size w w1 := by rw [hw1]; exact below_alloc (Below.refl _ _) _
  have hk1 : w1.heap[g]? = some (errBox 0) := by rw [hw1, hg]; exact World.alloc_heap_new w _
  have hs1 : w1.heap.size = g + 1 := by rw [hw1, hg]; simp
  have HR1 := Aside0.mk (hR.below hb1)
  have HE : Aside0 (w.alloc (.cells #[.int .i64 0] 24) = w1) := ⟨hw1.symm⟩
  have HGE := Aside0.mk hg
  have HGN : Aside0 (p < g) := ⟨by omega⟩
  have HSG : Aside0 (∀ k, S k → k < g) := ⟨fun k h => by have := HSL.out k h; omega⟩
  have HB1F : Aside0 (Fr (fun k => k = p) w w1) := ⟨Fr.below hb1 _⟩
  have HBX0 : Aside0 (Box w w1 S p g L a 0) := ⟨HR1.out, HB1F.out, hk1⟩
  have HAT := Aside0.mk (At_any S p a L w1 HR1.out)
  have HGT := Aside0.mk (Get_any S p a L 2 w1 HR1.out)
  have HGS := Aside0.mk (fun b W (h : Rd W S p L b) => Get_any S p b L 4 W h)
  have HRG := Aside0.mk (fun b k W (h : Rd W S p L b) (hk : k ≤ 14) => get_any5 S p b k L W h hk)
  have hg2 := @rGet2 L a h01
  have HG4 := Aside0.mk (fun b => @rGet4 L b h01)
  have HRL : Aside0 (rList L a m = _) := ⟨rList.eq_1 L a m⟩
  unfold RdPost at HGT HGS
  unfold GetPost at HRG
  generalize rList L a m = R at *
  generalize rGet L a 2 = gg at *
  obtain ⟨x, e1, b⟩ := gg
  dsimp only at HRL HGT hg2
  have HSZ : Aside0 (∀ W er a', Box w W S p g L a' er → ∀ er', Box w (W.setCell ⟨g, 0, none⟩ (.int .i64 er')) S p g L a' er') := ⟨fun W er a' h er' => h.set (by rw [HGE.out]; exact Nat.le_refl _) hpl (fun k hk => HSL.out k hk)⟩
  have hgp : g ≠ p := by omega
  clear hR hw1 hg hb1 hk1 hs1 hpl h1 h2
  by_cases he1 : e1 = 0
  case neg =>
    rw [if_pos he1] at HRL
    have q1 : (e1 != 0) = true := by simpa using he1
    have HE1 := Aside0.mk he1
    rw [HRL.out, if_pos he1] at HFR
    clear hg2 he1
    go_enter_defers Tryz.func154, Tryz.ntmps154
    go_wp2_with fail
    go_step3
    go_wp2_with fail
    rw [HE.out, ← HGE.out]
    refine HAT.out.mono ?_
    rintro e w2 ⟨rfl, hw⟩
    obtain rfl := hw.symm
    go_wp2_with fail
    refine HGT.out.mono ?_
    rintro e w2 ⟨rfl, hr, hf⟩
    have HBX2 := Aside0.mk (HBX0.out.read hgp hr hf)
    have c2 := HBX2.out.cell
    have f2 := HBX2.out.free
    clear hr hf
    have HBX3 := Aside0.mk (HSZ.out _ _ _ HBX2.out e1)
    have c3 := HBX3.out.cell
    have f3 := HBX3.out.free
    have HBX4 := Aside0.mk (HSZ.out _ _ _ HBX3.out e1).drew
    go_wp2_with fail
    go_region
    (try simp only [Exit.then])
    go_wp2_with fail
    (try rw [Exit.noGoto_ret])
    refine leaves_cons (f := 188) (args := #[.pointer (some ⟨p, 0, none⟩), .int .i64 (a : Int), .pointer (some ⟨g, 0, none⟩)]) (by simp) (by simp [go_sem]) ?_
    refine (back_any S p b a L ⟨g, 0, none⟩ e1 _ _ HBX4.out.rd hal HBX4.out.cell).mono ?_
    rintro e u' w'' ⟨rfl, rfl, hbk⟩
    unfold BackPost at hbk
    rw [if_neg HE1.out] at hbk
    have hk6 := blk_fr HBX4.out.blk hbk.2 (by have := HGN.out; omega)
    refine ⟨_, results_tc rfl _ _ ⟨g, 0, none⟩ .i64 e1 rfl (cell_of_one hk6) Tryz.underlying24, ?_⟩
    unfold LReadPost
    rw [HFR.out]
    exact ⟨_, rfl, World.ownsRow_nil _ _ _ _, hbk.1, (HBX4.out.fr.trans hbk.2)⟩
  subst he1
  rw [if_neg (by simp)] at HRL
  obtain ⟨q, hq, rfl⟩ := hg2 rfl
  clear hg2
  have hdvc := divides_any m q hq (by omega)
  rw [Int.toNat_natCast] at HRL
  by_cases hdv : divB m q = true
  case neg =>
    have hdv' : divB m q = false := by simpa using hdv
    rw [if_neg hdv] at HRL
    rw [hdv'] at hdvc
    have HD := Aside0.mk hdvc
    rw [HRL.out, if_pos (by simp)] at HFR
    clear hdv hdv' hdvc
    go_enter_defers Tryz.func154, Tryz.ntmps154
    go_wp2_with fail
    go_step3
    go_wp2_with fail
    rw [HE.out, ← HGE.out]
    refine HAT.out.mono ?_
    rintro e w2 ⟨rfl, hw⟩
    obtain rfl := hw.symm
    go_wp2_with fail
    refine HGT.out.mono ?_
    rintro e w2 ⟨rfl, hr, hf⟩
    have HBX2 := Aside0.mk (HBX0.out.read hgp hr hf)
    have c2 := HBX2.out.cell
    have f2 := HBX2.out.free
    clear hr hf
    have HBX3 := Aside0.mk (HSZ.out _ _ _ HBX2.out 0)
    have c3 := HBX3.out.cell
    have f3 := HBX3.out.free
    have HBX4 := Aside0.mk (HSZ.out _ _ _ HBX3.out 4)
    go_wp2_with fail
    refine (HD.out _).mono ?_
    rintro e w3 ⟨rfl, hw⟩
    obtain rfl := hw.symm
    go_wp2_with fail
    (try rw [Exit.noGoto_ret])
    refine leaves_cons (f := 188) (args := #[.pointer (some ⟨p, 0, none⟩), .int .i64 (a : Int), .pointer (some ⟨g, 0, none⟩)]) (by simp) (by simp [go_sem]) ?_
    refine (back_any S p b a L ⟨g, 0, none⟩ 4 _ _ HBX4.out.rd hal HBX4.out.cell).mono ?_
    rintro e u' w'' ⟨rfl, rfl, hbk⟩
    unfold BackPost at hbk
    rw [if_neg (by decide)] at hbk
    have hk6 := blk_fr HBX4.out.blk hbk.2 (by have := HGN.out; omega)
    refine ⟨_, results_tc rfl _ _ ⟨g, 0, none⟩ .i64 4 rfl (cell_of_one hk6) Tryz.underlying24, ?_⟩
    unfold LReadPost
    rw [HFR.out]
    exact ⟨_, rfl, World.ownsRow_nil _ _ _ _, hbk.1, (HBX4.out.fr.trans hbk.2)⟩
  rw [if_pos hdv] at HRL
  rw [hdv] at hdvc
  have HD := Aside0.mk hdvc
  have s1 := @shr_p q m
  have s2 := one_shl hq
  have hN : m / 2 ^ q ≤ 8192 := Nat.le_trans (Nat.div_le_self _ _) (by omega)
  have hM := pow_le8 hq
  generalize m / 2 ^ q = N at *
  obtain ⟨M, hMM⟩ : ∃ M, M = 2 ^ q := ⟨_, rfl⟩
  rw [← hMM] at HRL hM s2
  have S1 := Aside0.mk s1
  have S2 := Aside0.mk s2
  have S3 : Aside0 (wrap64 ((N : Int) + 1) = ((N + 1 : Nat) : Int)) := ⟨by rw [wrap64_id (by omega) (by omega)]; push_cast; rfl⟩
  clear hMM hdv hdvc s1 s2
  go_enter_defers Tryz.func154, Tryz.ntmps154
  go_wp2_with fail
  go_step3
  go_wp2_with fail
  rw [HE.out, ← HGE.out]
  refine HAT.out.mono ?_
  rintro e w2 ⟨rfl, hw⟩
  obtain rfl := hw.symm
  go_wp2_with fail
  refine HGT.out.mono ?_
  rintro e w2 ⟨rfl, hr, hf⟩
  have HBX2 := Aside0.mk (HBX0.out.read hgp hr hf)
  have c2 := HBX2.out.cell
  have f2 := HBX2.out.free
  clear hr hf
  have HBX3 := Aside0.mk (HSZ.out _ _ _ HBX2.out 0)
  have c3 := HBX3.out.cell
  have f3 := HBX3.out.free
  go_wp2_with fail
  refine (HD.out _).mono ?_
  rintro e w3 ⟨rfl, hw⟩
  obtain rfl := hw.symm
  go_wp2_with fail
  go_step3
  go_wp2_with fail
  rw [S2.out]
  obtain ⟨W0, hW0⟩ : ∃ W0 : World, W0 = w2.setCell ⟨g, 0, none⟩ (.int .i64 0) := ⟨_, rfl⟩
  have HBX5 := HBX3
  rw [← hW0] at HBX5 ⊢
  clear hW0 HBX3 HBX2 c3 f3
  go_loopg [7, 42] M (fun gk v u wr => ∃ (i b : Nat) (acc : List Int) (A1 : Option Addr) (c1 : Nat), v = .slice A1 acc.length c1 ∧ u = .int .i64 (i : Int) ∧ i + gk = M ∧ Aside0 (rParts L N (M - i) b acc = R) ∧ Aside0 (acc.length ≤ 8192 * i) ∧ Aside0 (RowV wr w.heap.size 3 1 v acc.length (flatI acc)) ∧ Aside0 (Box w wr S p g L b 0))
  case atStart => exact ⟨0, b, [], none, 0, rfl, rfl, by omega, ⟨HRL.out.symm⟩, ⟨by simp⟩, ⟨World.ownsRow_nil _ _ _ _⟩, HBX5⟩
  case round =>
    obtain ⟨i, b1, acc, A1, c1, rfl, rfl, hi, HPR, HAL, HRV, HBB⟩ := hrel
    by_cases hlt : i < M
    · have d1 : decide ((i : Int) < (M : Int)) = true := by simp; omega
      have hgs := HGS.out b1 wr HBB.out.rd
      have h4 := HG4.out b1
      have hpr := HPR.out
      rw [show M - i = (M - (i + 1)) + 1 by omega, rParts] at hpr
      generalize rGet L b1 4 = gg at *
      obtain ⟨x, e2, b2⟩ := gg
      dsimp only at hgs h4 hpr
      have HGG := Aside0.mk hgs
      have HNI := Aside0.mk HBB.out.rd.notint
      clear hgs
      by_cases he2 : e2 = 0
      case neg =>
        rw [if_pos he2] at hpr
        have q1 : (e2 != 0) = true := by simpa using he2
        have HE2 := Aside0.mk he2
        rw [← hpr, if_pos he2] at HFR
        clear h4 he2 hpr
        go_wp2_with fail
        refine HGG.out.mono ?_
        rintro e w3 ⟨rfl, hr, hf⟩
        have HBX6 := Aside0.mk (HBB.out.read hgp hr hf)
        have c6 := HBX6.out.cell
        have f6 := HBX6.out.free
        have HBX7 := Aside0.mk (HSZ.out _ _ _ HBX6.out e2)
        clear hr hf
        go_wp2_with fail
        (try rw [Exit.noGoto_ret])
        refine leaves_cons (f := 188) (args := #[.pointer (some ⟨p, 0, none⟩), .int .i64 (a : Int), .pointer (some ⟨g, 0, none⟩)]) (by simp) (by simp [go_sem]) ?_
        refine (back_any S p b2 a L ⟨g, 0, none⟩ e2 _ _ HBX7.out.rd hal HBX7.out.cell).mono ?_
        rintro e u' w'' ⟨rfl, rfl, hbk⟩
        unfold BackPost at hbk
        rw [if_neg HE2.out] at hbk
        have hk6 := blk_fr HBX7.out.blk hbk.2 (by have := HGN.out; omega)
        refine ⟨_, results_tc rfl _ _ ⟨g, 0, none⟩ .i64 e2 rfl (cell_of_one hk6) Tryz.underlying24, ?_⟩
        unfold LReadPost
        rw [HFR.out]
        exact ⟨_, rfl, World.ownsRow_nil _ _ _ _, hbk.1, (HBX7.out.fr.trans hbk.2)⟩
      subst he2
      rw [if_neg (by simp)] at hpr
      obtain ⟨k, hk, rfl⟩ := h4 rfl
      clear h4
      by_cases hk14 : 14 < k
      · rw [if_pos (by omega)] at hpr
        have d2 : decide ((14 : Int) < (k : Int)) = true := by simp; omega
        rw [← hpr, if_pos (by simp)] at HFR
        clear hpr hk14
        go_wp2_with fail
        refine HGG.out.mono ?_
        rintro e w3 ⟨rfl, hr, hf⟩
        have HBX6 := Aside0.mk (HBB.out.read hgp hr hf)
        have c6 := HBX6.out.cell
        have f6 := HBX6.out.free
        have HBX7 := Aside0.mk (HSZ.out _ _ _ HBX6.out 4)
        clear hr hf
        go_wp2_with fail
        (try rw [Exit.noGoto_ret])
        refine leaves_cons (f := 188) (args := #[.pointer (some ⟨p, 0, none⟩), .int .i64 (a : Int), .pointer (some ⟨g, 0, none⟩)]) (by simp) (by simp [go_sem]) ?_
        refine (back_any S p b2 a L ⟨g, 0, none⟩ 4 _ _ HBX7.out.rd hal HBX7.out.cell).mono ?_
        rintro e u' w'' ⟨rfl, rfl, hbk⟩
        unfold BackPost at hbk
        rw [if_neg (by decide)] at hbk
        have hk6 := blk_fr HBX7.out.blk hbk.2 (by have := HGN.out; omega)
        refine ⟨_, results_tc rfl _ _ ⟨g, 0, none⟩ .i64 4 rfl (cell_of_one hk6) Tryz.underlying24, ?_⟩
        unfold LReadPost
        rw [HFR.out]
        exact ⟨_, rfl, World.ownsRow_nil _ _ _ _, hbk.1, (HBX7.out.fr.trans hbk.2)⟩
      rw [if_neg (by omega), Int.toNat_natCast] at hpr
      have d2 : decide ((14 : Int) < (k : Int)) = false := by simp; omega
      have hpd : partDone L N (M - (i + 1)) (rWords L k N b2 acc) = R := hpr
      have HPD := Aside0.mk hpd
      have HRC := Aside0.mk (fun b W h => HRG.out b k W h (by omega))
      clear hpr hpd hk14 hk
      go_wp2_with fail
      refine HGG.out.mono ?_
      rintro e w3 ⟨rfl, hr, hf⟩
      have HRV3 := Aside0.mk (HRV.out.fr hf HNI.out)
      have HBX6 := Aside0.mk (HBB.out.read hgp hr hf)
      clear hr hf
      go_wp2_with fail
      rw [S1.out, S3.out]
      obtain ⟨wo, rfl⟩ : ∃ wo : World, wo = wr := ⟨_, rfl⟩
      obtain ⟨go, hgo⟩ : ∃ go, go = gk := ⟨_, rfl⟩
      go_loopg [7, 60] (N + 1) (fun gj v u wr => ∃ (j b : Nat) (acc : List Int) (A1 : Option Addr) (c1 : Nat), v = .slice A1 acc.length c1 ∧ u = .int .i64 (j : Int) ∧ j + gj = N + 1 ∧ j ≤ N ∧ Aside0 (partDone L N (M - (i + 1)) (rWords L k (N - j) b acc) = R) ∧ Aside0 (acc.length ≤ 8192 * i + j) ∧ Aside0 (RowV wr w.heap.size 3 1 v acc.length (flatI acc)) ∧ Aside0 (Box w wr S p g L b 0))
      case atStart => exact ⟨0, b2, acc, A1, c1, rfl, rfl, by omega, by omega, HPD, ⟨by have := HAL.out; omega⟩, HRV3, HBX6⟩
      case round =>
        obtain ⟨j, b3, acc3, A3, c3, rfl, rfl, hjg, hj, HPJ, HAJ, HRJ, HBJ⟩ := hrel
        have d3 : decide (j < N + 1) = true := by simp; omega
        have d4 : decide ((j : Int) < (N : Int) + 1) = true := by simp; omega
        have d4b : decide ((j : Int) < ((N + 1 : Nat) : Int)) = true := by simp; omega
        by_cases hjl : j < N
        · have d5 : ((j : Int) == (m : Int) / 2 ^ q) = false := by rw [S1.out]; simp; omega
          have hgs := HRC.out b3 wr HBJ.out.rd
          have hpj := HPJ.out
          rw [show N - j = (N - (j + 1)) + 1 by omega, rWords] at hpj
          generalize rRice L b3 k = gg at *
          obtain ⟨x, e3, b4⟩ := gg
          dsimp only at hgs hpj
          have HNI := Aside0.mk HBJ.out.rd.notint
          have HGG2 := Aside0.mk hgs
          clear hgs
          by_cases he3 : e3 = 0
          case neg =>
            rw [if_pos he3] at hpj
            unfold partDone at hpj
            rw [if_pos he3] at hpj
            have q1 : (e3 != 0) = true := by simpa using he3
            have HE3 := Aside0.mk he3
            rw [← hpj, if_pos he3] at HFR
            clear he3 hpj
            go_wp2_with fail
            refine HGG2.out.mono ?_
            rintro e w4 ⟨v, a4, rfl, hv, hr, hf⟩
            have HBX7 := Aside0.mk (HBJ.out.read hgp hr hf)
            have c7 := HBX7.out.cell
            have f7 := HBX7.out.free
            have HBX8 := Aside0.mk (HSZ.out _ _ _ HBX7.out e3)
            clear hv hr hf
            go_wp2_with fail
            (try rw [Exit.noGoto_ret])
            refine leaves_cons (f := 188) (args := #[.pointer (some ⟨p, 0, none⟩), .int .i64 (a : Int), .pointer (some ⟨g, 0, none⟩)]) (by simp) (by simp [go_sem]) ?_
            refine (back_any S p a4 a L ⟨g, 0, none⟩ e3 _ _ HBX8.out.rd hal HBX8.out.cell).mono ?_
            rintro e u' w'' ⟨rfl, rfl, hbk⟩
            unfold BackPost at hbk
            rw [if_neg HE3.out] at hbk
            have hk6 := blk_fr HBX8.out.blk hbk.2 (by have := HGN.out; omega)
            refine ⟨_, results_tc rfl _ _ ⟨g, 0, none⟩ .i64 e3 rfl (cell_of_one hk6) Tryz.underlying24, ?_⟩
            unfold LReadPost
            rw [HFR.out]
            exact ⟨_, rfl, World.ownsRow_nil _ _ _ _, hbk.1, (HBX8.out.fr.trans hbk.2)⟩
          subst he3
          rw [if_neg (by simp)] at hpj
          have HPJ2 := Aside0.mk hpj
          clear hpj
          go_wp2_with fail
          refine HGG2.out.mono ?_
          rintro e w4 ⟨v, a4, rfl, hv, hr, hf⟩
          obtain ⟨rfl, rfl⟩ := hv trivial
          have hv4 := HRJ.out.fr hf HNI.out
          have hbx := HBJ.out.read hgp hr hf
          obtain ⟨v5, w5, hrun, hr5, hg5⟩ := rowI_append (w4.alloc (.cells #[.int .i64 v] 3 (0, 0))) w.heap.size (.slice A3 acc3.length c3) acc3 v w4.heap.size (hv4.below (below_alloc (Below.refl _ _) _)) (World.alloc_heap_new w4 _) (by have := HAJ.out; omega) (by have := hbx.fr.size; simp; omega)
          obtain ⟨A5, c5, rfl⟩ := hr5.slice
          have HBX7 := Aside0.mk (hbx.more hv4 hg5)
          have HV5 := Aside0.mk hr5
          have HRUN := Aside0.mk hrun
          clear hv hr hf hv4 hrun hr5 hg5 hbx
          have hl5 : (acc3 ++ [v]).length = acc3.length + 1 := by simp
          go_wp2_with (at_builtin; refine wpList_run_append rfl _ _ _ rfl _ _ rfl rfl HRUN.out ?_)
          go_roundg (gk - 1)
          case rel => exact ⟨j + 1, a4, acc3 ++ [v], A5, c5, by rw [hl5], by go_num, by omega, by omega, HPJ2, ⟨by have := HAJ.out; omega⟩, ⟨by rw [← hl5]; exact HV5.out⟩, HBX7⟩
          case measure => omega
        · obtain rfl : j = N := by omega
          have d5 : ((j : Int) == (m : Int) / 2 ^ q) = true := by rw [S1.out]; simp
          have hpj := HPJ.out
          rw [Nat.sub_self, rWords] at hpj
          unfold partDone at hpj
          rw [if_neg (by simp)] at hpj
          have HPJ2 := Aside0.mk hpj
          clear hpj
          go_wp2_with fail
          go_roundg (go - 1)
          case rel => exact ⟨i + 1, b3, acc3, A3, c3, rfl, by go_num, by omega, HPJ2, ⟨by have := HAJ.out; omega⟩, HRJ, HBJ⟩
          case measure => omega
    · obtain rfl : i = M := by omega
      have d1 : decide ((i : Int) < (i : Int)) = false := by simp
      have hpr := HPR.out
      rw [Nat.sub_self, rParts] at hpr
      rw [← hpr, if_neg (by simp)] at HFR
      have c9 := HBB.out.cell
      have f9 := HBB.out.free
      have HBX9 := Aside0.mk (HSZ.out _ _ _ HBB.out 0)
      have HRV9 : Aside0 (RowV (wr.setCell ⟨g, 0, none⟩ (.int .i64 0)) w.heap.size 3 1 (.slice A1 acc.length c1) acc.length (flatI acc)) := ⟨HRV.out.fr (T := fun k => k = g) (Fr.setCell (S := fun k => k = g) (Fr.refl _ _) (p := ⟨g, 0, none⟩) (fun _ => rfl) _) (by
        rintro k cs rfl _ he
        have hb := HBB.out.blk
        rw [he] at hb
        cases hb)⟩
      clear hpr
      go_wp2_with fail
      (try rw [Exit.noGoto_ret])
      refine leaves_cons (f := 188) (args := #[.pointer (some ⟨p, 0, none⟩), .int .i64 (a : Int), .pointer (some ⟨g, 0, none⟩)]) (by simp) (by simp [go_sem]) ?_
      refine (back_any S p b1 a L ⟨g, 0, none⟩ 0 _ _ HBX9.out.rd hal HBX9.out.cell).mono ?_
      rintro e u' w'' ⟨rfl, rfl, hbk⟩
      unfold BackPost at hbk
      rw [if_pos rfl] at hbk
      subst hbk
      refine ⟨_, results_tc rfl _ _ ⟨g, 0, none⟩ .i64 0 rfl HBX9.out.cell Tryz.underlying24, ?_⟩
      unfold LReadPost
      rw [HFR.out]
      exact ⟨_, rfl, HRV9.out, HBX9.out.rd, HBX9.out.fr⟩
end Go.Proofs.YtjcijaojcgampaaGreatDoor.P
end
section
namespace Go.Proofs.YtjcijaojcgampaaGreatDoor.P
open Go.RowKit Go.Shelf Go.Proofs.YtjcijaojcgampaaGreatDoor.Bits Go.Proofs.YtjcijaojcgampaaGreatDoorW.PrintWords Go.Proofs.YtjcijaojcgampaaGreatDoorW.PrintLast Go.Proofs.YtjcijaojcgampaaGreatDoorW.PrintMore
theorem fWrite_small {l : List Int} (hs : smallL l) (hl : l.length ≤ 600) : ∃ p, p ≤ 3 ∧ divB l.length p = true ∧ fWrite [] l = (0, listBits l p) ∧ (listBits l p).length ≤ 40000 := by
  obtain ⟨p, hp3, hdv, hoe, hp1, _⟩ := orderW_least l
  have h0 := wholeW0_le hs
  have h1 := hp1 0 (by omega) (by simp [divB, Nat.mod_one])
  have hlen := listBits_length hs p
  refine ⟨p, hp3, hdv, ?_, by omega⟩
  unfold fWrite
  rw [if_neg (by simp [chk_zero.2 ⟨by omega, hs⟩]), hoe]
  dsimp only
  rw [if_neg (by simp; omega), Int.toNat_natCast, List.nil_append]
end Go.Proofs.YtjcijaojcgampaaGreatDoor.P
end
