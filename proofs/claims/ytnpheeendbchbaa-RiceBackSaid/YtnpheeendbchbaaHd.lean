/- The contracts of rice.order, Order. -/
import Derived.Test.YtnpheeendbchbaaHa
import Derived.RangeFuncNested
namespace Go.Proofs.Ytnpheeendbchbaa.P
open Go.RowKit Go.Shelf Go.Proofs.Ytnpheeendbchbaa.Bits Go.Proofs.YtnpheeendbchbaaW.PrintWords Go.Proofs.YtnpheeendbchbaaW.PrintLast Go.Proofs.YtnpheeendbchbaaW.PrintMore
set_option linter.unusedVariables false
set_option linter.unusedSimpArgs false
attribute [local go_sem ↓] Go.wp_at_zero Go.wp_at_succ

def csum (l : List Int) (p : Nat) (pre : List Nat) : Int := (pre.map fun i => costP (partL l p i)).sum
theorem csum_snoc (l : List Int) (p : Nat) (pre : List Nat) (i : Nat) : csum l p (pre ++ [i]) = csum l p pre + costP (partL l p i) := by unfold csum; simp
theorem wholeW_csum (l : List Int) (p : Nat) : wholeW l p = 2 + csum l p (List.range' 0 (2 ^ p)) := by unfold wholeW csum partsL; rw [List.map_map]; rfl
theorem partL_len_le (l : List Int) (p i : Nat) : (partL l p i).length ≤ l.length := by unfold partL; rw [List.length_drop, List.length_take]; omega
theorem costP_bound' {l : List Int} (hs : smallL l) (hl : l.length ≤ 100000) (p i : Nat) : 0 ≤ costP (partL l p i) ∧ costP (partL l p i) ≤ 5700004 := by
  have hb := (bestW_bound (partL_small hs p i)).2
  have := partL_len_le l p i
  unfold costP
  omega
theorem csum_bound {l : List Int} (hs : smallL l) (hl : l.length ≤ 100000) (p : Nat) (pre : List Nat) : 0 ≤ csum l p pre ∧ csum l p pre ≤ 5700004 * pre.length := sum_bound _ _ pre (fun i _ => costP_bound' hs hl p i)
/-- A part, where it lies. -/
theorem part_C {W : World} {A : Option Addr} {c : Nat} {l : List Int} (h : Kd.C (Kd.int .i64) W A l.length l) (hc : l.length ≤ c) (p i : Nat) (hi : i < 2 ^ p) : Kd.C (Kd.int .i64) W (pAt A c (partN l p) i) (partL l p i).length (partL l p i) := by
  have hle := part_le l p i hi
  have := Kd.C_mid (c := c) (lo := i * partN l p) (hi := i * partN l p + partN l p) h (by omega) hle hc
  exact this
/-- Book-keeping does not touch cells. -/
theorem own_cells {β : Type} (B b : Nat) (cs : Array Value) (t : TypeId) (fr : Nat × Nat) : OwnFrom B (fun (_ : β) W => W.heap[b]? = some (.cells cs t fr)) := fun s X Y row hs hg hr =>
  (hg.block _ (lt_of_block hs) (fun e => by
    obtain ⟨_, o, ho, hc⟩ := hr b e.symm
    rw [hs] at ho
    cases ho
    cases hc)).trans hs
attribute [local go_sem] Oper.semAt_some
set_option maxHeartbeats 8000000 in
set_option maxRecDepth 100000 in
theorem order1_any (A : Option Addr) (c : Nat) (l : List Int) (b p : Nat) (w : World) (hb : w.heap[b]? = some (listBox A l.length c)) (hC : Kd.C (Kd.int .i64) w A l.length l) (hc : l.length ≤ c) (hs : smallL l) (hl : l.length ≤ 100000) (hp : p ≤ 3) :
    Calls Try.prog 88 (#[.int .i64 (p : Int)] ++ #[.pointer (some ⟨b, 0, none⟩)]) w fun e w' => e = .returned (.tuple #[.int .i64 (if divB l.length p then wholeW l p else 0), .bool (divB l.length p)]) ∧ Below w.heap.size w w' := by
  show Calls Try.prog 88 #[.int .i64 (p : Int), .pointer (some ⟨b, 0, none⟩)] w _
  have HD := Aside0.mk (fun W => divides_any l.length p hp (by omega) W)
  have zb := cell_of_one hb
  by_cases hd : divB l.length p = true
  case neg =>
    have hd' : divB l.length p = false := by simpa using hd
    rw [hd'] at HD ⊢
    clear hb hC hs hd hd'
    go_enter Try.func88, Try.ntmps88
    go_wp2_with fail
    refine (HD.out _).mono ?_
    rintro e w2 ⟨rfl, hw⟩
    obtain rfl := hw.symm
    go_wp2_with fail
    go_ret2
    exact ⟨rfl, Below.refl _ _⟩
  rw [hd] at HD ⊢
  rw [if_pos rfl]
  have h8 := pow_le8 hp
  obtain ⟨bn, hbn⟩ : ∃ bn, bn = w.heap.size := ⟨_, rfl⟩
  obtain ⟨w1, hw1⟩ : ∃ w1, w1 = w.alloc (intBox 2) := ⟨_, rfl⟩
  obtain ⟨w4, hw4⟩ : ∃ w4, w4 = (w1.alloc (listBox A l.length c)).alloc (intBox (p : Int)) := ⟨_, rfl⟩
  obtain ⟨bl, hbl⟩ : ∃ bl, bl = w1.heap.size := ⟨_, rfl⟩
  have hsz1 : w1.heap.size = w.heap.size + 1 := by rw [hw1]; simp
  have hsz4 : w4.heap.size = w1.heap.size + 2 := by rw [hw4]; simp
  have hB1 : Below w.heap.size w w1 := by rw [hw1]; exact below_alloc (Below.refl _ _) _
  have hb14 : Below w1.heap.size w1 w4 := by rw [hw4]; exact below_alloc (below_alloc (Below.refl _ _) _) _
  have hB4 := hB1.trans (hb14.mono hB1.size)
  have hkn : w4.heap[bn]? = some (intBox 2) := blk_fr (by rw [hw1, hbn]; exact World.alloc_heap_new w _) (Fr.below hb14 (fun _ => False)) (fun h => h)
  have hkl : w4.heap[bl]? = some (listBox A l.length c) := by rw [hw4, hbl]; exact blk_alloc' (World.alloc_heap_new w1 _) _
  have hkp : w4.heap[bl + 1]? = some (intBox (p : Int)) := by
    rw [hw4, hbl]
    have := World.alloc_heap_new (w1.alloc (listBox A l.length c)) (intBox (p : Int))
    simpa using this
  have z1 : w1.cell? ⟨b, 0, none⟩ = some (.slice A l.length c) := cell_of_one (blk_fr hb (Fr.below hB1 (fun _ => False)) (fun h => h))
  have hst := parts_stops 4 bl (bl + 1) A c l p hp hl hc (fun k => w.heap.size ≤ k ∧ k ≠ bl ∧ k ≠ bl + 1) w4 hkl hkp (fun h => h.2.1 rfl) (fun h => h.2.2 rfl)
  have HPM := Aside0.mk (fun W hW (i : Nat) (hi : i < 2 ^ p) => param_any (pAt A c (partN l p) i) (c - i * partN l p) (partL l p i) W (part_C hW hc p i hi) (by rw [partL_length l p i hi]; have := part_le l p i hi; omega) (partL_small hs p i) (by have := partL_len_le l p i; omega))
  have HPL := Aside0.mk (partL_length l p)
  have HCB := Aside0.mk (csum_bound hs hl p)
  have HWW := Aside0.mk (wholeW_csum l p)
  have HCP := Aside0.mk (costP_bound' hs hl)
  have HST := Aside0.mk hst
  have HB4 := Aside0.mk hB4
  have HB1 := Aside0.mk hB1
  have HKN := Aside0.mk hkn
  have HC := Aside0.mk hC
  have HN := Aside0.mk (show bn = w.heap.size ∧ bn < bl ∧ bl + 2 = w4.heap.size from ⟨hbn, by omega, by omega⟩)
  have HE1 : Aside0 (w.alloc (.cells #[.int .i64 2] 3) = w1) := ⟨hw1.symm⟩
  have HW4 := Aside0.mk hw4
  have HBL := Aside0.mk hbl
  have HBN := Aside0.mk hbn
  clear hb hC hs hd hbn hw1 hw4 hbl hsz1 hsz4 hB1 hb14 hB4 hkn hkl hkp hst
  refine (callsIn_wide (n := 5)).1 ?_
  refine callsIn_of_wp_marks Try.func88 rfl trivial ?_ rfl
  simp only [Try.ntmps88, List.size_toArray, List.length_cons, List.length_nil, Nat.reduceAdd, Nat.reduceSub, Array.replicate_succ, Array.replicate_zero, List.push_toArray, List.append_toArray, List.nil_append, List.cons_append]
  refine wpIn_wide.2 ?_
  go_wp2_with fail
  refine (HD.out _).mono ?_
  rintro e w2 ⟨rfl, hw⟩
  obtain rfl := hw.symm
  have z2 : (w.alloc (.cells #[.int .i64 2] 3)).cell? ⟨b, 0, none⟩ = some (.slice A l.length c) := by rw [HE1.out]; exact z1
  go_wp2_with fail
  rw [HE1.out, ← HBN.out]
  refine (parts_any A l.length c p w1).mono ?_
  rintro e w2 ⟨rfl, hw⟩
  rw [← HW4.out] at hw
  obtain rfl := hw.symm
  rw [← HBL.out]
  go_wp2_with fail
  refine (wpIn_wide (n := 5)).1 ?_
  refine wpIn_rangeFunc_ownG rfl (by omega) (gf := 94) (lb := #[.pointer (some ⟨bl, 0, none⟩), .pointer (some ⟨bl + 1, 0, none⟩)]) rfl trivial (enters_of Try.func94 (by kernel_rfl) rfl)
    HST.out (fun h k => h.trans k) ?hKb (Below.refl w4.heap.size w4) (fun _ => rfl)
    (fun pre W => (Below w.heap.size w W ∧ w4.heap.size ≤ W.heap.size) ∧ W.heap[bn]? = some (intBox (2 + csum l p (pre.map (·.1)))))
    (fun _ _ _ => False) ?hI (fun _ _ _ _ _ hs _ _ => hs) ⟨⟨HB4.out, Nat.le_refl _⟩, HKN.out⟩
    (fun i : PIx p => { tmps := #[.int .i64 (p : Int), .pointer (some ⟨b, 0, none⟩), undef, .int .i64 0, .bool false, .pointer (some ⟨bn, 0, none⟩), partV A c (partN l p) i.1, undef, undef, .slice A l.length c, .int .i64 (l.length : Int), .int .i64 (p : Int), .bool true, .bool false, .slice A l.length c, .int .i64 (p : Int), seqP bl (bl + 1), partV A c (partN l p) i.1, undef, undef, undef, undef, undef, undef, undef, undef, undef, undef], defers := [] })
    ?assign ?body ?done ?stop
  case hKb =>
    intro W l' o o' hl' ho hc' _
    exact (Fr.refl _ _).grown (grownBy_putObj' W l' o') (fun k _ e => by cases e; have := HN.out; exact ⟨by have := HB4.out.size; omega, by omega, by omega⟩)
  case hI =>
    rintro s X Y row ⟨⟨hb, hs4⟩, h3⟩ hg hrow
    refine ⟨⟨hb.grown hg hb.size (fun k e => by have := (hrow k e).1; have := HB4.out.size; omega), Nat.le_trans hs4 hg.size⟩, own_cells (β := Unit) w4.heap.size bn _ _ _ () X Y row h3 hg hrow⟩
  case assign =>
    intro l' x W K hK
    gi_wp2
    exact hK
  case body =>
    rintro l' pre i W ⟨⟨hb, hs4⟩, h3⟩ hlen
    have hcs := HCB.out (pre.map (·.1))
    rw [List.length_map] at hcs
    have hcp := HCP.out p i.1
    have HSN : Aside0 (csum l p ((pre ++ [i]).map (·.1)) = csum l p (pre.map (·.1)) + costP (partL l p i.1)) := ⟨by rw [List.map_append]; exact csum_snoc l p _ i.1⟩
    have HPC : Aside0 (costP (partL l p i.1) = 4 + (bestW (partL l p i.1)).2) := ⟨rfl⟩
    have hpm := HPM.out W (Kd.C_below HC.out hb) i.1 i.2
    rw [HPL.out i.1 i.2] at hpm
    generalize csum l p (pre.map (·.1)) = s at *
    generalize bestW (partL l p i.1) = r at *
    generalize costP (partL l p i.1) = cp at *
    obtain ⟨k, x⟩ := r
    dsimp only at hpm HPC
    have hx := HPC.out
    have hxb : -4 ≤ x ∧ x ≤ 5700000 := by omega
    have hs8 : 0 ≤ s ∧ s ≤ 45600032 := by omega
    have HX := Aside0.mk hx
    have HPM1 := Aside0.mk hpm
    have H3 := Aside0.mk h3
    have HB := Aside0.mk hb
    have HS4 := Aside0.mk hs4
    clear hpm h3 hb HPC hx hcs hcp
    gi_wp2
    refine ⟨trivial, ?_⟩
    have hcall := callsIn_wide (n := 2).2 HPM1.out
    refine CallsIn.mono (show CallsIn (Fence.wide.inRound l') 2 Try.prog _ _ W _ from hcall) ?_
    rintro e W' ⟨rfl, hb2⟩
    have h32 := blk_fr H3.out (Fr.below hb2 (fun _ => False)) (fun h => h)
    have c32 := cell_of_one h32
    have f32 : W'.frozen? ⟨bn, 0, none⟩ = false := blk_frozen h32 0
    have H32 := Aside0.mk h32
    have HB2 := Aside0.mk hb2
    clear hb2 h32
    gi_wp2
    have hfr : Fr (fun k => k = bn) W (W'.setCell ⟨bn, 0, none⟩ (.int .i64 (2 + s + (4 + x)))) := Fr.setCell (S := fun k => k = bn) (Fr.below HB2.out _) (p := ⟨bn, 0, none⟩) (fun _ => rfl) _
    refine ⟨hfr.keepsFrom (fun k hk o ho => ?_), hfr.mono (fun k _ hk => ?_), ⟨HB.out.trans (hfr.to_below HB.out.size (fun k hk => ?_)), Nat.le_trans HS4.out hfr.size⟩, ?_⟩
    · subst hk; rw [H3.out] at ho; cases ho; rfl
    · have := HN.out; subst hk; exact ⟨by omega, by omega, by omega⟩
    · have := HN.out; omega
    · rw [heap_setCell_same _ _ _ _ _ _ H32.out, HSN.out, HX.out]
      have e : 2 + s + (4 + x) = 2 + (s + (4 + x)) := by omega
      rw [e]
      rfl
  case done =>
    rintro D ys W hD hys ⟨⟨hb, hs4⟩, h3⟩ hK
    rw [hys] at h3
    have c3 := cell_of_one h3
    have HB := Aside0.mk hb
    have HK := Aside0.mk hK
    have hw := HWW.out
    rw [← hw] at c3
    clear h3 hb hK hys hw
    (try simp only [Exit.inBlock, Exit.then])
    go_wp2_with fail
    refine ⟨by simp, .inl ⟨_, _, rfl, run_takeDeferred HK.out, ?_⟩⟩
    have hfD : Fr (fun k => k = D) W (W.putObj D (.deferred none)) := (Fr.refl _ _).grown (grownBy_putObj' W D (.deferred none)) (fun k _ e => by cases e; rfl)
    refine ⟨_, results_tmp2 rfl _ _ _, rfl, HB.out.trans (hfD.to_below HB.out.size (fun k hk => by subst hk; have := HB4.out.size; omega))⟩
  case stop =>
    rintro D c pre W _ _ h _
    exact h.elim

theorem chs_order (l : List Int) : chs (fun p => if divB l.length p then wholeW l p else 0) (divB l.length) 4 = orderW l := by
  have h0 : divB l.length 0 = true := by simp [divB, Nat.mod_one]
  show iter (cst (fun p => if divB l.length p then wholeW l p else 0) (divB l.length)) 3 1 (0, if divB l.length 0 then wholeW l 0 else 0) = iter (ostep l) 3 1 (0, wholeW l 0)
  rw [h0, if_pos rfl]
  congr 1
  funext s k
  unfold cst ostep bstep
  by_cases h : divB l.length k = true
  · simp [h]
  · simp [h]
set_option maxHeartbeats 1000000 in
theorem order_any (A : Option Addr) (c : Nat) (l : List Int) (w : World) (hC : Kd.C (Kd.int .i64) w A l.length l) (hc : l.length ≤ c) (hs : smallL l) (hl : l.length ≤ 100000) :
    Calls Try.prog 64 #[.slice A l.length c] w fun e w' => e = .returned (.tuple #[.int .i64 (orderW l).1, .int .i64 (orderW l).2]) ∧ Below w.heap.size w w' := by
  obtain ⟨w1, hw1⟩ : ∃ w1, w1 = w.alloc (listBox A l.length c) := ⟨_, rfl⟩
  obtain ⟨b, hb⟩ : ∃ b, b = w.heap.size := ⟨_, rfl⟩
  have hb1 : Below w.heap.size w w1 := by rw [hw1]; exact below_alloc (Below.refl _ _) _
  have hk1 : w1.heap[b]? = some (listBox A l.length c) := by rw [hw1, hb]; exact World.alloc_heap_new w _
  have hch := cheapest_any 88 #[.pointer (some ⟨b, 0, none⟩)] (enters_of Try.func88 (by kernel_rfl) rfl) 3 (by omega) (fun p => if divB l.length p then wholeW l p else 0) (divB l.length) w1 (by simp [divB, Nat.mod_one])
    (fun k W hk hW => order1_any A c l b k W (blk_fr hk1 (Fr.below hW (fun _ => False)) (fun h => h)) (Kd.C_below hC (hb1.trans (hW.mono hb1.size))) hc hs hl hk)
  rw [chs_order] at hch
  have HCH := Aside0.mk hch
  have HB1 := Aside0.mk hb1
  have HE : Aside0 (w.alloc (.cells #[.slice A l.length c] 40) = w1) := ⟨hw1.symm⟩
  have HB := Aside0.mk hb
  generalize orderW l = r at *
  clear hC hs hw1 hb hb1 hk1 hch
  go_enter Try.func64, Try.ntmps64
  go_wp2_with fail
  rw [HE.out, ← HB.out]
  refine HCH.out.mono ?_
  rintro e w2 ⟨rfl, hd⟩
  have HB2 := Aside0.mk (HB1.out.trans (hd.mono HB1.out.size))
  clear hd
  go_wp2_with fail
  go_ret2
  exact ⟨rfl, HB2.out⟩
set_option maxHeartbeats 1000000 in
theorem Order_any (A : Option Addr) (c : Nat) (l : List Int) (w : World) (hC : Kd.C (Kd.int .i64) w A l.length l) (hc : l.length ≤ c) (hl : l.length ≤ 1000000000) :
    Calls Try.prog 29 #[.slice A l.length c] w fun e w' => e = .returned (.tuple #[.int .i64 (fOrder l).1, .int .i64 (fOrder l).2.1, .int .i64 (fOrder l).2.2]) ∧ Below w.heap.size w w' := by
  have HK := Aside0.mk (check_any A c l w hC hl)
  have HC := Aside0.mk hC
  have HF : Aside0 (fOrder l = if chk l ≠ 0 then (0, 0, chk l) else ((orderW l).1, (orderW l).2, 0)) := ⟨rfl⟩
  clear hC
  by_cases h3 : chk l = 0
  · obtain ⟨h4, h5⟩ := chk_zero.1 h3
    have HS := Aside0.mk (fun W hW => order_any A c l W hW hc h5 (by omega))
    rw [h3] at HK HF
    rw [if_neg (by simp)] at HF
    clear h3 h5
    generalize orderW l = r at *
    go_enter Try.func29, Try.ntmps29
    go_wp2_with fail
    refine HK.out.mono ?_
    rintro e w1 ⟨rfl, hd⟩
    have HD := Aside0.mk hd.below
    clear hd
    go_wp2_with fail
    refine (HS.out _ (Kd.C_below HC.out HD.out)).mono ?_
    rintro e w2 ⟨rfl, hd⟩
    have HD2 := Aside0.mk (HD.out.trans (hd.mono HD.out.size))
    clear hd
    go_wp2_with fail
    go_ret3
    rw [HF.out]
    exact ⟨rfl, HD2.out⟩
  · rw [if_pos h3] at HF
    have q1 : (chk l != 0) = true := by simpa using h3
    clear h3
    generalize chk l = x at *
    go_enter Try.func29, Try.ntmps29
    go_wp2_with fail
    refine HK.out.mono ?_
    rintro e w1 ⟨rfl, hd⟩
    have HD := Aside0.mk hd.below
    clear hd
    go_wp2_with fail
    go_ret3
    rw [HF.out]
    exact ⟨rfl, HD.out⟩
end Go.Proofs.Ytnpheeendbchbaa.P
