/- The contracts of Writer.Bytes, Open. The contracts of the reference's Same, Of, Pack. The check sums: the contracts of Crc16 and Crc32, the program's and the reference's. The sum of 32 bits: the program's and the reference's. -/
import Derived.Test.YtnpheeendbchbaaBj
import Derived.Maps.AppendAt
section
namespace Go.Proofs.Ytnpheeendbchbaa.P
open Go.RowKit Go.Shelf Go.Proofs.Ytnpheeendbchbaa.Bits Go.Proofs.YtnpheeendbchbaaW.PrintWords Go.Proofs.YtnpheeendbchbaaW.PrintLast Go.Proofs.YtnpheeendbchbaaW.PrintMore
set_option linter.unusedVariables false
set_option linter.unusedSimpArgs false
attribute [local go_sem ↓] Go.wp_at_zero Go.wp_at_succ

/-- append of bytes to a row of one's own, as a run. -/
theorem append_run {S : Nat → Prop} (W : World) (v : Value) (xs ys : List Int) (A : Option Addr) (m c : Nat) (HO : RB S W v xs) (HR : Kd.C (Kd.int .u8) W A m ys) (hl : xs.length + m ≤ 140737488355328) :
    ∃ v1 w1, (Builtin.append_ #[27, 27] 27 #[v, .slice A m c]).run Try.prog W = .ok v1 w1 ∧ RB (fun k => S k ∨ k = W.heap.size) w1 v1 (xs ++ ys) ∧ W.grownBy w1 v.ownBlock := by
  obtain ⟨i0, hi, hzz⟩ := Option.map_eq_some_iff.1 binfo
  simp only [Prod.mk.injEq] at hzz
  obtain ⟨hz0, hz1, hz2⟩ := hzz
  have HO' := Kd.own_of_R HO
  have HR' := Kd.reads_of_C (enc := Value.int .u8) (d := (0 : Int)) (h1 := fun _ => rfl) HR
  have hm : ys.length = m := HR'.1
  have ht := Try.underlying27
  rcases A with _ | ad
  · have h0 : m = 0 := by
      rcases Nat.eq_zero_or_pos m with h0 | h0
      · exact h0
      · obtain ⟨ad, h, _⟩ := HR'.2.2 h0
        cases h
    subst h0
    obtain rfl : ys = [] := List.eq_nil_of_length_eq_zero hm
    refine ⟨v, W, ?_, by rw [List.append_nil]; exact Kd.R_mono HO (fun k hk => .inl hk), World.grownBy.refl W _⟩
    rcases HO'.2 with ⟨rfl, hn⟩ | ⟨g, cap, cur, rfl, _, _, hnc, _⟩
    · simp [Builtin.append_, run_underlying ht, sizeOf, typeInfo, hi, Builtin.lenOf, Builtin.firstCells]
    · simp [Builtin.append_, run_underlying ht, sizeOf, typeInfo, hi, Builtin.lenOf, Builtin.firstCells, hnc, storeCells]
  · have hcells : ∀ j u, (encs (Value.int .u8) ys)[j]? = some u → W.cell? (ad.add j) = some u := by
      intro j u hu
      have hj : j < ys.length := by
        rcases Nat.lt_or_ge j ys.length with h | h
        · exact h
        · simp [encs, List.getElem?_eq_none h] at hu
      obtain ⟨ad', h', hc⟩ := HR'.2.2 (by omega)
      obtain rfl := Option.some.inj h'
      rw [encs_get (d := (0 : Int)) ys j hj] at hu
      rw [← hu]
      exact hc j (by omega)
    obtain ⟨v1, w1, hr, h2, h3, _, h5⟩ := run_append_own_at (P := Try.prog) W 0 27 27 5 i0 _ 1 1 ht hi hz0 hz1 hz2 rfl (by omega) v xs.length (encs (Value.int .u8) xs) HO' ad m c (encs (Value.int .u8) ys) (by simp [encs, hm]) hcells
      (by intro u hu; simp only [encs, List.mem_map] at hu; obtain ⟨q, _, rfl⟩ := hu; rfl) (by simp only [maxLen]; omega) (by omega) (Nat.zero_le _)
    refine ⟨v1, w1, hr, Kd.R_of_own (by simpa [encs, hm] using h2) (fun k hk => ?_), h3⟩
    rcases h5 with e | e
    · exact .inl (HO.1 k (by rw [← e]; exact hk))
    · rw [e] at hk; cases hk; exact .inr rfl

abbrev noBytes : Obj := .cells #[] 5 (0, 0)
theorem empty_R (W : World) : RB (fun k => k = W.heap.size) (W.alloc noBytes) (.slice (some ⟨W.heap.size, 0, none⟩) 0 0) [] :=
  Kd.R_of_own (own_lit_of (enc := fun x => Value.int .u8 x) W 0 5 [] (Nat.zero_le _) (by decide)) (fun k hk => by simpa [Value.ownBlock] using hk.symm)

theorem step_run_append {P : Program} {ops : Array Oper} {o : Oper} {a : Act} {K : Act → World → Prop} {Q : Exit → Act → World → Prop} {E : Prop} {W w1 : World} {v1 : Value} (hgd : o.guard = none) (s x : Operand) (t : TypeId)
    (ho : o.op = .call { callee := .builtin .append, args := #[s, x], argTypes := #[t, t] }) (v y : Value) (hs : a.eval s = v) (hx : a.eval x = y) (hrun : (Builtin.append_ #[t, t] o.type #[v, y]).run P W = .ok v1 w1) (h : K (a.put o.dst v1) w1) :
    if Region.wanted o (yielded ops a.tmps) = true then Oper.wp P o a W K Q else E := by
  have hw : Region.wanted o (yielded ops a.tmps) = true := by simp [Region.wanted, hgd]
  rw [if_pos hw]
  unfold Oper.wp execOp
  simp only [ho, resolve, invoke, builtin, Sem.run_bind, Sem.run_pure, Result.andThen_ok, List.map_toArray, List.map_cons, List.map_nil, hs, hx, hrun]
  exact h

set_option maxHeartbeats 1000000 in
set_option maxRecDepth 100000 in
theorem Bytes_any (S : Nat → Prop) (p : Nat) (L : List Int) (w : World) (hW : Wr w S p L) (hL : L.length ≤ 1048576) :
    Calls Try.prog 40 #[.pointer (some ⟨p, 0, none⟩)] w fun e w' => ∃ v S', e = .returned v ∧ RB S' w' v (pk L) ∧ (∀ k, S' k → w.heap.size ≤ k) ∧ Below w.heap.size w w' := by
  obtain ⟨v, hblk, hR⟩ := hW.blk
  obtain ⟨A, cv, ev, hcv, hC⟩ := Kd.R_reads hR
  subst ev
  have c0 : w.cell? ⟨p, 0, none⟩ = some (.slice A (pk L).length cv) := by rw [cell_of_row _ _ _ _ _ _ hblk]; rfl
  have hpl := lt_of_block hblk
  have HC := Aside0.mk hC
  have HR := Aside0.mk hR
  clear hblk hR hC hW
  go_enter Try.func40, Try.ntmps40
  go_wp2_with fail
  obtain ⟨v1, w1, hrun, hr1, hg1⟩ := append_run (S := fun k => k = w.heap.size) (w.alloc noBytes).drew (.slice (some ⟨w.heap.size, 0, none⟩) 0 0) [] (pk L) A (pk L).length (pk L).length (Kd.R_drew (empty_R w)) (Kd.C_drew (Kd.C_alloc HC.out _)) (by simp [pk_length]; omega)
  have HR1 := Aside0.mk hr1
  have HG1 := Aside0.mk hg1
  have HRUN := Aside0.mk hrun
  have hk1 : w1.cell? ⟨p, 0, none⟩ = some (.slice A (pk L).length cv) := by
    have h1 : (w.alloc noBytes).drew.cell? ⟨p, 0, none⟩ = some (.slice A (pk L).length cv) := (World.cell?_alloc_lt w noBytes ⟨p, 0, none⟩ hpl).trans c0
    refine (World.cell?_of_block (hg1.block p (by simp; omega) (fun e => ?_))).trans h1
    have : p = w.heap.size := by simpa [Value.ownBlock] using e
    omega
  clear hr1 hg1 hrun
  go_region_held3 (fun w' => w'.cell? ⟨p, 0, none⟩ = some (.slice A (pk L).length cv))
    (first | assumption | go_keep)
    ((refine step_run_append (by rfl) _ _ _ (by rfl) _ _ (by rfl) (by rfl) HRUN.out ?_))
  go_wp2_with fail
  go_ret
  refine ⟨v1, _, rfl, by have := HR1.out; rwa [List.nil_append] at this, ?_, ?_⟩
  · rintro k (rfl | rfl)
    · exact Nat.le_refl _
    · simp
  · refine (below_drew (below_alloc (Below.refl _ _) _)).grown HG1.out (by simp) (fun k hk => ?_)
    have : w.heap.size = k := by simpa [Value.ownBlock] using hk
    omega

theorem wpList_run_append {P : Program} {ops : Array Oper} {rest : List Oper} {o : Oper} {a : Act} {Q : Exit → Act → World → Prop} {W w1 : World} {v1 : Value} (hgd : o.guard = none) (s x : Operand) (t : TypeId)
    (ho : o.op = .call { callee := .builtin .append, args := #[s, x], argTypes := #[t, t] }) (v y : Value) (hs : a.eval s = v) (hx : a.eval x = y) (hrun : (Builtin.append_ #[t, t] o.type #[v, y]).run P W = .ok v1 w1) (h : wpList P ops Q rest (a.put o.dst v1) w1) :
    wpList P ops Q (o :: rest) a W := by
  refine wpList_plain hgd fun K hK => ?_
  unfold Oper.wp execOp
  simp only [ho, resolve, invoke, builtin, Sem.run_bind, Sem.run_pure, Result.andThen_ok, List.map_toArray, List.map_cons, List.map_nil, hs, hx, hrun]
  exact hK _ _ h

def openE (B : List Int) (n : Int) : Int := if n < 0 ∨ 8 * (B.length : Int) < n then 1 else if 1048576 < n then 2 else 0
/-- What Open gives: no reader, and an error; or a reader of the bits. -/
def OpenPost (w : World) (B : List Int) (n : Int) (e : Ending) (w' : World) : Prop :=
  if openE B n = 0 then ∃ p S, e = .returned (.tuple #[.pointer (some ⟨p, 0, none⟩), .int .i64 0]) ∧ Rd w' S p (ofB B n.toNat) 0 ∧ w.heap.size ≤ p ∧ (∀ k, S k → w.heap.size ≤ k) ∧ Below w.heap.size w w'
  else e = .returned (.tuple #[.pointer none, .int .i64 (openE B n)]) ∧ w' = w
theorem bitAt_take (B : List Int) (m i : Nat) (h : i / 8 < m) : bitAt (B.take m) i = bitAt B i := by
  unfold bitAt
  rw [List.getD_eq_getElem?_getD, List.getElem?_take, if_pos h, ← List.getD_eq_getElem?_getD]
theorem ofB_take' (B : List Int) (m n : Nat) (h : n ≤ 8 * m) : ofB (B.take m) n = ofB B n := by
  unfold ofB
  apply List.map_congr_left
  intro i hi
  have := List.mem_range.1 hi
  exact bitAt_take B m i (by omega)

set_option maxHeartbeats 1000000 in
set_option maxRecDepth 100000 in
theorem Open_any (A : Option Addr) (c : Nat) (B : List Int) (n : Int) (w : World) (hC : Kd.C (Kd.int .u8) w A B.length B) (hB : is8 B) (hBl : B.length ≤ 1000000000) (hc : B.length ≤ c) :
    Calls Try.prog 17 #[.slice A B.length c, .int .i64 n] w (OpenPost w B n) := by
  have HC := Aside0.mk hC
  have H8 := Aside0.mk hB
  clear hC hB
  by_cases h1 : n < 0
  · have HN : Aside0 (openE B n = 1) := ⟨by unfold openE; rw [if_pos (.inl h1)]⟩
    have d1 : decide (n < 0) = true := by simpa using h1
    go_enter Try.func17, Try.ntmps17
    go_wp2_with fail
    go_ret2
    unfold OpenPost
    rw [HN.out, if_neg (by decide)]
    exact ⟨rfl, rfl⟩
  obtain ⟨m, rfl⟩ : ∃ m : Nat, n = m := ⟨n.toNat, by omega⟩
  have d1 : decide ((m : Int) < 0) = false := by simp
  by_cases h2 : 8 * (B.length : Int) < m
  · have HN : Aside0 (openE B m = 1) := ⟨by unfold openE; rw [if_pos (.inr h2)]⟩
    have d2 : decide (8 * (B.length : Int) < (m : Int)) = true := by simpa using h2
    clear h1
    go_enter Try.func17, Try.ntmps17
    go_wp2_with fail
    go_ret2
    unfold OpenPost
    rw [HN.out, if_neg (by decide)]
    exact ⟨rfl, rfl⟩
  have d2 : decide (8 * (B.length : Int) < (m : Int)) = false := by simpa using h2
  by_cases h3 : 1048576 < (m : Int)
  · have HN : Aside0 (openE B m = 2) := ⟨by unfold openE; rw [if_neg (by omega), if_pos h3]⟩
    have d3 : decide (1048576 < (m : Int)) = true := by simpa using h3
    clear h1
    go_enter Try.func17, Try.ntmps17
    go_wp2_with fail
    go_ret2
    unfold OpenPost
    rw [HN.out, if_neg (by decide)]
    exact ⟨rfl, rfl⟩
  · have HN : Aside0 (openE B m = 0) := ⟨by unfold openE; rw [if_neg (by omega), if_neg h3]⟩
    have d3 : decide (1048576 < (m : Int)) = false := by simpa using h3
    have hm : m ≤ 1048576 := by omega
    have hm8 : m ≤ 8 * B.length := by omega
    obtain ⟨q, hq⟩ : ∃ q, q = (m + 7) / 8 := ⟨_, rfl⟩
    have hqB : q ≤ B.length := by omega
    have w1' : ((m : Int) + 7) / 8 = (q : Int) := by omega
    have hsl : ∀ W : World, (Instr.slice 27 (.slice A B.length c) none (some (.int .i64 (q : Int))) none).run Try.prog W = .ok (.slice A q c) W := by
      intro W
      have := cut_to (P := Try.prog) 27 5 .i64 Try.underlying27 (i := _) rfl A B.length c (q : Int) (by omega) (by omega) hc W
      simpa using this
    have hl : (B.take q).length = q := by rw [List.length_take]; omega
    have hCt := Kd.C_take HC.out hqB
    rw [hl] at hCt
    obtain ⟨v1, w1, hrun, hr1, hg1⟩ := append_run (S := fun k => k = w.heap.size) (w.alloc noBytes) (.slice (some ⟨w.heap.size, 0, none⟩) 0 0) [] (B.take q) A q c (empty_R w) (Kd.C_alloc hCt _) (by simp; omega)
    rw [List.nil_append] at hr1
    obtain ⟨Av, cv, ev⟩ := Kd.R_slice hr1
    subst ev
    rw [hl] at hr1 hrun
    have HQ := Aside0.mk hq
    have HR1 := Aside0.mk hr1
    have HG1 := Aside0.mk hg1
    have HRUN := Aside0.mk hrun
    have HL := Aside0.mk hl
    clear hr1 hg1 hrun h1 h2 h3 hCt hq hl
    go_enter Try.func17, Try.ntmps17
    go_wp2_with (at_builtin; refine wpList_run_append rfl _ _ _ rfl _ _ rfl rfl HRUN.out ?_)
    go_ret2
    unfold OpenPost
    rw [HN.out, if_pos rfl, Int.toNat_natCast]
    have hb1 : Below w.heap.size w w1 := (below_alloc (Below.refl _ _) _).grown HG1.out (by simp) (fun k hk => by
      have : w.heap.size = k := by simpa [Value.ownBlock] using hk
      omega)
    have hr1 := Kd.R_bound HR1.out
    have hsz := hb1.size
    have hq := HQ.out
    refine ⟨w1.heap.size, fun k => (k = w.heap.size ∨ k = (w.alloc noBytes).heap.size) ∧ ∃ cells, (w1.alloc (.cells #[.slice Av q cv, .int .i64 (m : Int), .int .i64 0] 69)).heap[k]? = some (.cells cells 5 (0, 0)), rfl, ⟨⟨.slice Av q cv, B.take q, ?_, ?_, ?_, ?_, ?_, ?_⟩, Nat.zero_le _, by rw [ofB_length]; exact hm, fun k hk => hk.2⟩, hsz, ?_, ?_⟩
    · rw [ofB_length]; exact World.alloc_heap_new w1 _
    · refine Kd.R_mono (Kd.R_alloc hr1 _) (fun k hk => ⟨hk.1, ?_⟩)
      obtain ⟨q', hq', cells, hc⟩ := hk.2.2.2
      obtain rfl : q' = 5 := by simpa [Kd.int, Kd.scalar] using hq'
      exact ⟨cells, blk_alloc' hc _⟩
    · exact fun b hb => H8.out b (List.mem_of_mem_take hb)
    · rw [ofB_length]; exact ofB_take' B q m (by omega)
    · rw [ofB_length, HL.out]; omega
    · rw [HL.out]; omega
    · rintro k ⟨(rfl | rfl), _⟩
      · exact Nat.le_refl _
      · simp
    · exact hb1.alloc hsz _
end Go.Proofs.Ytnpheeendbchbaa.P
end
section
namespace Go.Proofs.Ytnpheeendbchbaa.P
open Go.RowKit Go.Shelf Go.Proofs.Ytnpheeendbchbaa.Bits Go.Proofs.YtnpheeendbchbaaW.PrintWords Go.Proofs.YtnpheeendbchbaaW.PrintLast Go.Proofs.YtnpheeendbchbaaW.PrintMore
set_option linter.unusedVariables false
set_option linter.unusedSimpArgs false
attribute [local go_sem ↓] Go.wp_at_zero Go.wp_at_succ

theorem at8 {w : World} {A : Option Addr} {n : Nat} {B : List Int} (h : Kd.C (Kd.int .u8) w A n B) (i : Nat) (hi : i < n) : ∃ ad, A = some ad ∧ w.cell? (ad.add i) = some (.int .u8 (B.getD i 0)) := by
  obtain ⟨ad, e, hx⟩ := Kd.at_int h (i : Int) (by omega) (by omega)
  refine ⟨ad, e, ?_⟩
  rw [Int.toNat_natCast] at hx
  rw [hx]; unfold rd; rw [Int.toNat_natCast]
theorem C_len8 {w : World} {A : Option Addr} {n : Nat} {B : List Int} (h : Kd.C (Kd.int .u8) w A n B) : B.length = n := h.1

theorem C_ext {B B' : List Int} {n : Nat} (h1 : B.length = n) (h2 : B'.length = n) (h : ∀ i, i < n → B.getD i 0 = B'.getD i 0) : B = B' := ext_getD (by omega) (fun j hj => h j (by omega))

set_option maxHeartbeats 1000000 in
set_option maxRecDepth 100000 in
theorem Same_any (A A' : Option Addr) (n n' c c' : Nat) (B B' : List Int) (w : World) (hC : Kd.C (Kd.int .u8) w A n B) (hC' : Kd.C (Kd.int .u8) w A' n' B') (hn : n ≤ 1000000000) (hn' : n' ≤ 1000000000) :
    Calls Try.prog 39 #[.slice A n c, .slice A' n' c'] w fun e w' => e = .returned (.bool (decide (B = B'))) ∧ Drawn0 w w' := by
  have hl := C_len8 hC
  have hl' := C_len8 hC'
  have HC := Aside0.mk hC
  have HC' := Aside0.mk hC'
  clear hC hC'
  by_cases hnn : n = n'
  · subst hnn
    have HL := Aside0.mk hl
    have HL' := Aside0.mk hl'
    clear hl hl'
    go_enter Try.func39, Try.ntmps39
    go_wp2_with fail
    go_loopw [13] (fun i wr => ∃ k : Nat, i = .int .i64 (k : Int) ∧ k ≤ n ∧ Aside0 (∀ j, j < k → B.getD j 0 = B'.getD j 0) ∧ Aside0 (Drawn0 w wr)) (fun i _ => n - (intOf i).toNat)
    case atStart => exact ⟨0, rfl, Nat.zero_le _, ⟨fun j hj => by omega⟩, ⟨Drawn0.refl _⟩⟩
    case round =>
      obtain ⟨k, rfl, hk, HE, HD⟩ := hrel
      by_cases hlt : k < n
      · have hCr := Kd.C_below HC.out HD.out.below
        have hCr' := Kd.C_below HC'.out HD.out.below
        obtain ⟨ad, e, hx⟩ := at8 hCr k hlt
        obtain ⟨ad', e', hx'⟩ := at8 hCr' k hlt
        subst e
        subst e'
        have HX := Aside0.mk (rfl : B.getD k 0 = B.getD k 0)
        obtain ⟨x, hX⟩ : ∃ x, x = B.getD k 0 := ⟨_, rfl⟩
        obtain ⟨y, hY⟩ : ∃ y, y = B'.getD k 0 := ⟨_, rfl⟩
        rw [← hX] at hx
        rw [← hY] at hx'
        have HX := Aside0.mk hX
        have HY := Aside0.mk hY
        clear hX hY hCr hCr'
        by_cases hxy : x = y
        · have q1 : (x != y) = false := by simp [hxy]
          have HXY := Aside0.mk hxy
          clear hxy
          go_wp2_with fail
          go_quiet (fail)
          go_wp2_with fail
          go_roundw
          case rel => exact ⟨k + 1, by go_num, by omega, ⟨fun j hj => by
            by_cases h : j = k
            · subst h; rw [← HX.out, ← HY.out]; exact HXY.out
            · exact HE.out j (by omega)⟩, ⟨HD.out.step _⟩⟩
          case measure => simp [intOf]; omega
        · have q1 : (x != y) = true := by simp [hxy]
          have HN : Aside0 (decide (B = B') = false) := ⟨by
            apply decide_eq_false
            rintro rfl
            exact hxy (HX.out.trans HY.out.symm)⟩
          clear hxy
          go_wp2_with fail
          go_quiet (fail)
          go_wp2_with fail
          go_ret
          rw [HN.out]
          exact ⟨rfl, HD.out.step _⟩
      · have HN : Aside0 (decide (B = B') = true) := ⟨decide_eq_true (C_ext HL.out HL'.out (fun i hi => HE.out i (by omega)))⟩
        go_wp2_with fail
        go_ret
        rw [HN.out]
        exact ⟨rfl, HD.out⟩
  · have HN : Aside0 (decide (B = B') = false) := ⟨by
      apply decide_eq_false
      rintro rfl
      omega⟩
    have q1 : ((n : Int) != (n' : Int)) = true := by simp; omega
    clear hl hl'
    go_enter Try.func39, Try.ntmps39
    go_wp2_with fail
    go_ret
    rw [HN.out]
    exact ⟨rfl, Drawn0.refl _⟩

/-- The first p elements of n are there. -/
def fillB (f : Nat → Int) (n p : Nat) : List Int := (List.range p).map f ++ List.replicate (n - p) 0
theorem fillB_length (f : Nat → Int) (n p : Nat) (h : p ≤ n) : (fillB f n p).length = n := by simp [fillB]; omega
theorem fillB_set (f : Nat → Int) (n p : Nat) (h : p < n) : (fillB f n p).set p (f p) = fillB f n (p + 1) := by
  unfold fillB
  rw [show n - p = (n - (p + 1)) + 1 by omega, List.replicate_succ, List.set_append, List.range_succ]
  simp
theorem fillB_zero (f : Nat → Int) (n : Nat) : fillB f n 0 = List.replicate n 0 := by simp [fillB]
theorem fillB_all (f : Nat → Int) (n : Nat) : fillB f n n = (List.range n).map f := by simp [fillB]
theorem made8 (W : World) (m : Nat) (hm : m ≤ 9223372036854775807) : RB (fun k => k = W.heap.size) (W.alloc (.cells (madeCells #[.int .u8 0] m) 5)) (.slice (some ⟨W.heap.size, 0, none⟩) m m) (List.replicate m 0) :=
  Kd.R_of_own (own_made_of' (enc := fun x => Value.int .u8 x) (d := 0) W 0 5 m (Nat.zero_le _) hm) (fun k hk => by simpa [Value.ownBlock] using hk.symm)

set_option maxHeartbeats 1000000 in
set_option maxRecDepth 100000 in
theorem Of_any (A : Option Addr) (nb c n : Nat) (B : List Int) (w : World) (hC : Kd.C (Kd.int .u8) w A nb B) (h8 : is8 B) (hn : n ≤ 8 * nb) (hnb : nb ≤ 1000000000) :
    Calls Try.prog 53 #[.slice A nb c, .int .i64 n] w fun e w' => ∃ v S', e = .returned v ∧ RB S' w' v (ofB B n) ∧ (∀ k, S' k → w.heap.size ≤ k) ∧ Below w.heap.size w w' := by
  have HC := Aside0.mk hC
  have H8 := Aside0.mk h8
  have hmk := print_make_of (P := Try.prog) 27 5 (.int .u8 0) 1 Try.underlying27 binfo rfl (by decide) n (by omega)
  clear hC h8
  go_enter Try.func53, Try.ntmps53
  go_wp2_with fail
  clear hmk
  obtain ⟨g, hg⟩ : ∃ g, g = w.heap.size := ⟨_, rfl⟩
  have HR0 := Aside0.mk (made8 w n (by omega))
  rw [← hg] at HR0 ⊢
  have HG := Aside0.mk hg
  have HB0 := Aside0.mk (below_alloc (Below.refl w.heap.size w) (.cells (madeCells #[.int .u8 0] n) 5))
  clear hg
  go_loopw [10] (fun i wr => ∃ k : Nat, i = .int .i64 (k : Int) ∧ k ≤ n ∧ Aside0 (RB (fun k => k = g) wr (.slice (some ⟨g, 0, none⟩) n n) (fillB (bitAt B) n k)) ∧ Aside0 (Below w.heap.size w wr)) (fun i _ => n - (intOf i).toNat)
  case atStart => exact ⟨0, rfl, Nat.zero_le _, ⟨by rw [fillB_zero]; exact HR0.out⟩, HB0⟩
  case round =>
    obtain ⟨k, rfl, hk, HR, HB⟩ := hrel
    by_cases hlt : k < n
    · have hCr := Kd.C_below HC.out HB.out
      obtain ⟨ad, e, hx⟩ := at8 hCr (k / 8) (by omega)
      subst e
      have hx8 := getD8 H8.out (k / 8)
      have hbit : bitAt B k = B.getD (k / 8) 0 / 2 ^ (7 - k % 8) % 2 := rfl
      obtain ⟨x, hX⟩ : ∃ x, x = B.getD (k / 8) 0 := ⟨_, rfl⟩
      rw [← hX] at hx hx8 hbit
      have hd := div_small x (7 - k % 8) hx8.1 hx8.2
      have ha := and1_u8 (x / 2 ^ (7 - k % 8)) hd
      rw [← hbit] at ha
      have HA := Aside0.mk ha
      have hcell := Kd.R_celln 0 HR.out (k : Int) (by omega) (by omega)
      rw [Int.toNat_natCast] at hcell
      obtain ⟨hc1, hc2⟩ := hcell
      have HP := Aside0.mk (fillB_set (bitAt B) n k hlt)
      have i1 : (0 : Int) ≤ (k : Int) / 8 := by omega
      have i2 : (k : Int) / 8 < (nb : Int) := by omega
      have i3 : (0 : Int) ≤ (k : Int) := by omega
      have i4 : (k : Int) < (n : Int) := by omega
      clear hX hd ha hbit hCr
      go_wp2_with fail
      go_roundw
      case rel =>
        rw [HA.out]
        have hr := Kd.R_putn HR.out (k : Int) (bitAt B k)
        rw [Int.toNat_natCast, HP.out] at hr
        exact ⟨k + 1, by go_num, by omega, ⟨hr⟩, ⟨HB.out.setCell (p := ⟨g, k, none⟩) (by have := HG.out; show w.heap.size ≤ g; omega) _⟩⟩
      case measure => simp [intOf]; omega
    · obtain rfl : k = n := by omega
      go_wp2_with fail
      go_ret
      refine ⟨_, _, rfl, by have := HR.out; rw [fillB_all] at this; exact this, fun j hj => ?_, HB.out⟩
      have := HG.out
      omega

/-- The bytes of the first k bits. -/
def pkN (L : List Int) (k : Nat) : List Int := (List.range ((L.length + 7) / 8)).map (byteAt (L.take k))
theorem pkN_zero (L : List Int) : pkN L 0 = List.replicate ((L.length + 7) / 8) 0 := by
  unfold pkN
  rw [List.eq_replicate_iff]
  refine ⟨by simp, fun b hb => ?_⟩
  obtain ⟨j, _, rfl⟩ := List.mem_map.1 hb
  rw [List.take_zero]
  exact byteAt_out [] j (by simp)
theorem pkN_all (L : List Int) : pkN L L.length = pk L := by unfold pkN pk; rw [List.take_length]
theorem pkN_length (L : List Int) (k : Nat) : (pkN L k).length = (L.length + 7) / 8 := by simp [pkN]
theorem pkN_getD (L : List Int) (k j : Nat) (h : j < (L.length + 7) / 8) : (pkN L k).getD j 0 = byteAt (L.take k) j := by simp [pkN, h]
theorem pkN_set (L : List Int) (k : Nat) (h : k < L.length) : (pkN L k).set (k / 8) (byteAt (L.take k) (k / 8) + L.getD k 0 * 2 ^ (7 - k % 8)) = pkN L (k + 1) := by
  have hl : (L.take k).length = k := by rw [List.length_take]; omega
  apply ext_getD
  · simp [pkN_length]
  · intro j hj
    rw [List.length_set, pkN_length] at hj
    rw [getD_set _ _ _ _ (by rw [pkN_length]; omega), pkN_getD L (k + 1) j hj]
    have ht : L.take (k + 1) = L.take k ++ [L.getD k 0] := by
      rw [List.take_succ_eq_append_getElem h, List.getD_eq_getElem?_getD, List.getElem?_eq_getElem h]; rfl
    rw [ht, byteAt_snoc, hl]
    by_cases hjk : k / 8 = j
    · rw [if_pos hjk, if_pos hjk.symm, hjk]
    · rw [if_neg hjk, if_neg (fun e => hjk e.symm), pkN_getD L k j hj]; omega
theorem byteAt_rest' (L : List Int) (k : Nat) (h : k ≤ L.length) : byteAt (L.take k) (k / 8) % 2 ^ (8 - k % 8) = 0 := by
  have := byteAt_rest (L.take k)
  rwa [List.length_take, Nat.min_eq_left h] at this
theorem or_byte' (x b : Int) (m : Nat) (hx : 0 ≤ x ∧ x < 256) (hb : b = 0 ∨ b = 1) (hm : m < 8) (hr : x % 2 ^ (8 - m) = 0) : Go.bits BinOp.or IntKind.u8 x (IntKind.u8.wrap (b * 2 ^ (7 - m))) = x + b * 2 ^ (7 - m) := by
  have h := or_byte x b m hx hb hm hr
  have hp : (2 : Int) ^ (7 - m) ≤ 2 ^ 7 := by
    have h1 : ((2 ^ (7 - m) : Nat) : Int) = (2 : Int) ^ (7 - m) := Int.natCast_pow 2 _
    have h2 := Nat.pow_le_pow_right (show 0 < 2 by omega) (show 7 - m ≤ 7 by omega)
    omega
  have hp0 : (0 : Int) < 2 ^ (7 - m) := Int.pow_pos (by omega)
  have hbd : 0 ≤ b * 2 ^ (7 - m) ∧ b * 2 ^ (7 - m) < 256 := by rcases hb with rfl | rfl <;> omega
  rw [wrap64_id (by omega) (by omega)] at h
  rw [IntKind.wrap_u8]
  exact h

set_option maxHeartbeats 1000000 in
set_option maxRecDepth 100000 in
theorem Pack_any (A : Option Addr) (n c : Nat) (L : List Int) (w : World) (hC : Kd.C (Kd.int .u8) w A n L) (h01 : is01 L) (hn : n ≤ 1000000000) :
    Calls Try.prog 72 #[.slice A n c] w fun e w' => ∃ v S', e = .returned v ∧ RB S' w' v (pk L) ∧ (∀ k, S' k → w.heap.size ≤ k) ∧ Below w.heap.size w w' := by
  obtain rfl := C_len8 hC
  have HC := Aside0.mk hC
  have H01 := Aside0.mk h01
  obtain ⟨nb, hnb⟩ : ∃ nb, nb = (L.length + 7) / 8 := ⟨_, rfl⟩
  have hmk := print_make_of (P := Try.prog) 27 5 (.int .u8 0) 1 Try.underlying27 binfo rfl (by decide) nb (by omega)
  have e1 : ((L.length : Int) + 7) / 8 = (nb : Int) := by omega
  have HNB := Aside0.mk hnb
  have hnb' : 8 * nb < L.length + 8 ∧ L.length ≤ 8 * nb := by omega
  clear hC h01 hnb
  go_enter Try.func72, Try.ntmps72
  go_wp2_with fail
  clear hmk e1
  obtain ⟨g, hg⟩ : ∃ g, g = w.heap.size := ⟨_, rfl⟩
  have HR0 := Aside0.mk (made8 w nb (by omega))
  rw [← hg] at HR0 ⊢
  have HG := Aside0.mk hg
  have HB0 := Aside0.mk (below_alloc (Below.refl w.heap.size w) (.cells (madeCells #[.int .u8 0] nb) 5))
  clear hg
  go_loopw [13] (fun i wr => ∃ k : Nat, i = .int .i64 (k : Int) ∧ k ≤ L.length ∧ Aside0 (RB (fun k => k = g) wr (.slice (some ⟨g, 0, none⟩) nb nb) (pkN L k)) ∧ Aside0 (Below w.heap.size w wr)) (fun i _ => L.length - (intOf i).toNat)
  case atStart => exact ⟨0, rfl, Nat.zero_le _, ⟨by rw [pkN_zero, ← HNB.out]; exact HR0.out⟩, HB0⟩
  case round =>
    obtain ⟨k, rfl, hk, HR, HB⟩ := hrel
    by_cases hlt : k < L.length
    · have hCr := Kd.C_below HC.out HB.out
      obtain ⟨ad, e, hx⟩ := at8 hCr k hlt
      subst e
      have hb01 := getD01 H01.out k
      have hset := pkN_set L k hlt
      have hrest := byteAt_rest' L k hk
      have hx8 := byteAt_is8 (is01_take H01.out k) (k / 8)
      obtain ⟨q, hq⟩ : ∃ q, q = k / 8 := ⟨_, rfl⟩
      obtain ⟨m, hm⟩ : ∃ m, m = k % 8 := ⟨_, rfl⟩
      have hgq := pkN_getD L k q (by have := HNB.out; omega)
      rw [← hq, ← hm] at hset
      rw [← hq, ← hm] at hrest
      rw [← hq] at hx8
      have hcell := Kd.R_celln 0 HR.out (q : Int) (by omega) (by omega)
      unfold rdOf at hcell
      rw [Int.toNat_natCast, hgq] at hcell
      obtain ⟨hc1, hc2⟩ := hcell
      generalize hB : L.getD k 0 = b at *
      generalize hX : byteAt (L.take k) q = x at *
      have hm8 : m < 8 := by omega
      have HO := Aside0.mk (or_byte' x b m hx8 (by omega) hm8 hrest)
      have HSet := Aside0.mk hset
      have i1 : (0 : Int) ≤ (q : Int) := by omega
      have i2 : (q : Int) < (nb : Int) := by omega
      have i2' : q < nb := by omega
      have i3 : (0 : Int) ≤ 7 - (m : Int) := by omega
      have w0' : (k : Int).tdiv 8 = (q : Int) := by rw [Int.tdiv_eq_ediv_of_nonneg (by omega)]; omega
      have w1' : IntKind.i64.wrap ((k : Int) / 8) = (q : Int) := by rw [IntWalk.i64_in _ (by omega)]; omega
      have w4' : IntKind.i64.wrap (q : Int) = (q : Int) := IntWalk.i64_in _ (by omega)
      have w2' : (k : Int).tmod 8 = (m : Int) := by rw [Int.tmod_eq_emod_of_nonneg (by omega)]; omega
      have w3' : IntKind.i64.wrap (7 - (m : Int)) = 7 - (m : Int) := IntWalk.i64_in _ (by omega)
      clear hset hrest hgq hB hX hq hm hCr
      go_wp2_with fail
      refine wp_still 12 (by kernel_rfl) (by kernel_rfl) ?_
      simp only [List.take_succ_cons, List.take_zero, List.drop_succ_cons, List.drop_zero]
      repeat still_step
      repeat still_step
      refine wpStill_nil ?_
      show wpList _ _ _ _ _ _
      rw [HO.out]
      clear w0' w1' w2' w3' w4' HO
      generalize x + b * 2 ^ (7 - m) = V at *
      generalize IntKind.u8.wrap (b * 2 ^ (7 - m)) = Y at *
      go_wp2_with fail
      go_roundw
      case rel =>
        have hr := Kd.R_putn HR.out (q : Int) V
        rw [Int.toNat_natCast, HSet.out] at hr
        refine ⟨k + 1, by go_num, by omega, ⟨?_⟩, ⟨?_⟩⟩
        · first | exact hr | exact Kd.R_drew hr
        · have hb := HB.out.setCell (p := ⟨g, q, none⟩) (by have := HG.out; show w.heap.size ≤ g; omega) (.int .u8 V)
          first | exact hb | exact below_drew hb
      case measure => simp [intOf]; omega
    · obtain rfl : k = L.length := by omega
      go_wp2_with fail
      go_ret
      refine ⟨_, _, rfl, by have := HR.out; rw [pkN_all] at this; exact this, fun j hj => ?_, HB.out⟩
      have := HG.out
      omega
end Go.Proofs.Ytnpheeendbchbaa.P
end
section
namespace Go.Proofs.Ytnpheeendbchbaa.P
open Go.RowKit Go.Shelf Go.Proofs.Ytnpheeendbchbaa.Bits Go.Proofs.YtnpheeendbchbaaW.PrintWords Go.Proofs.YtnpheeendbchbaaW.PrintLast Go.Proofs.YtnpheeendbchbaaW.PrintMore
set_option linter.unusedVariables false
set_option linter.unusedSimpArgs false
attribute [local go_sem ↓] Go.wp_at_zero Go.wp_at_succ

/-- A step of the sum of 16 bits. -/
def st16 (r : Nat) (b : Int) : Nat := if ((r / 32768 : Nat) : Int) = b then 2 * r % 65536 else (2 * r % 65536) ^^^ 32773
def crc16 (L : List Int) : Nat := L.foldl st16 65535
theorem st16_lt (r : Nat) (b : Int) : st16 r b < 65536 := by
  unfold st16
  split
  · omega
  · have : (2 * r % 65536) ^^^ 32773 < 2 ^ 16 := Nat.xor_lt_two_pow (by omega) (by omega)
    omega
theorem fold16_lt (L : List Int) (r : Nat) (h : r < 65536) : L.foldl st16 r < 65536 := by
  induction L generalizing r with
  | nil => exact h
  | cons b L ih => exact ih _ (st16_lt r b)
theorem xor_bits (x b : Int) (hx : x = 0 ∨ x = 1) (hb : b = 0 ∨ b = 1) : Go.bits BinOp.xor IntKind.i64 x b = if x = b then 0 else 1 := by
  rcases hx with rfl | rfl <;> rcases hb with rfl | rfl <;> decide
theorem and16 (x : Nat) (h : x < 9223372036854775808) : Go.bits BinOp.and IntKind.i64 (x : Int) 65535 = ((x % 65536 : Nat) : Int) := by
  have := and_i64 x 65535 h (by omega)
  rw [show ((65535 : Nat) : Int) = 65535 from rfl] at this
  rw [this, show (65535 : Nat) = 2 ^ 16 - 1 from rfl, Nat.and_two_pow_sub_one_eq_mod]
theorem ofB_byte (B : List Int) (k : Nat) : ofB B (8 * (k + 1)) = ofB B (8 * k) ++ numb (B.getD k 0) 8 := by
  rw [show 8 * (k + 1) = 8 * k + 1 + 1 + 1 + 1 + 1 + 1 + 1 + 1 by omega]
  simp only [ofB_succ, List.append_assoc]
  congr 1
  have e : ∀ i, i < 8 → bitAt B (8 * k + i) = B.getD k 0 / 2 ^ (7 - i) % 2 := by
    intro i hi
    unfold bitAt
    rw [show (8 * k + i) / 8 = k by omega, show (8 * k + i) % 8 = i by omega]
  have e0 := e 0 (by omega)
  have e1 := e 1 (by omega)
  have e2 := e 2 (by omega)
  have e3 := e 3 (by omega)
  have e4 := e 4 (by omega)
  have e5 := e 5 (by omega)
  have e6 := e 6 (by omega)
  have e7 := e 7 (by omega)
  rw [Nat.add_zero] at e0
  rw [show 8 * k + 1 + 1 = 8 * k + 2 by omega, show 8 * k + 2 + 1 = 8 * k + 3 by omega, show 8 * k + 3 + 1 = 8 * k + 4 by omega, show 8 * k + 4 + 1 = 8 * k + 5 by omega, show 8 * k + 5 + 1 = 8 * k + 6 by omega, show 8 * k + 6 + 1 = 8 * k + 7 by omega, e0, e1, e2, e3, e4, e5, e6, e7]
  rfl

end Go.Proofs.Ytnpheeendbchbaa.P
end
section
namespace Go.Proofs.Ytnpheeendbchbaa.P
open Go.RowKit Go.Shelf Go.Proofs.Ytnpheeendbchbaa.Bits Go.Proofs.YtnpheeendbchbaaW.PrintWords Go.Proofs.YtnpheeendbchbaaW.PrintLast Go.Proofs.YtnpheeendbchbaaW.PrintMore
set_option linter.unusedVariables false
set_option linter.unusedSimpArgs false
attribute [local go_sem ↓] Go.wp_at_zero Go.wp_at_succ

def p32 (r : Nat) : Nat := if r % 2 = 1 then (r / 2) ^^^ 3988292384 else r / 2
def s32 (r b : Nat) : Nat := if r % 2 = b then r / 2 else (r / 2) ^^^ 3988292384
def it32 : Nat → Nat → Nat
  | 0, r => r
  | k + 1, r => p32 (it32 k r)
def sr32 (x : Nat) : Nat → Nat → Nat
  | 0, r => r
  | k + 1, r => s32 (sr32 x k r) (x / 2 ^ k % 2)
/-- The sum, a byte on. -/
def byte32 (r : Nat) (x : Int) : Nat := it32 8 (r ^^^ x.toNat)
def crc32 (B : List Int) : Nat := (B.foldl byte32 4294967295) ^^^ 4294967295
theorem xor_half (a b : Nat) : (a ^^^ b) / 2 = (a / 2) ^^^ (b / 2) := by
  have := Nat.shiftRight_xor_distrib (a := a) (b := b) (i := 1)
  simpa [Nat.shiftRight_eq_div_pow] using this
theorem xor_odd (a b : Nat) : ((a ^^^ b) % 2 = 1) ↔ ¬ (a % 2 = b % 2) := by
  rw [Nat.xor_mod_two_eq_one]
  omega
theorem p32_xor (s y : Nat) : p32 (s ^^^ y) = s32 s (y % 2) ^^^ (y / 2) := by
  unfold p32 s32
  by_cases h : s % 2 = y % 2
  · rw [if_neg (by rw [xor_odd]; simpa using h), if_pos h, xor_half]
  · rw [if_pos (by rw [xor_odd]; exact h), if_neg h, xor_half, Nat.xor_assoc, Nat.xor_assoc, Nat.xor_comm (y / 2)]
theorem it32_sr32 (r x : Nat) : ∀ k, it32 k (r ^^^ x) = sr32 x k r ^^^ (x / 2 ^ k)
  | 0 => by simp [it32, sr32]
  | k + 1 => by
    rw [it32, it32_sr32 r x k, p32_xor, sr32, Nat.div_div_eq_div_mul, Nat.pow_succ]
theorem it32_eight (r x : Nat) (h : x < 256) : it32 8 (r ^^^ x) = sr32 x 8 r := by
  rw [it32_sr32, show x / 2 ^ 8 = 0 by omega, Nat.xor_zero]
theorem p32_lt (r : Nat) (h : r < 4294967296) : p32 r < 4294967296 := by
  unfold p32
  split
  · have : (r / 2) ^^^ 3988292384 < 2 ^ 32 := Nat.xor_lt_two_pow (by omega) (by omega)
    omega
  · omega
theorem s32_lt (r b : Nat) (h : r < 4294967296) : s32 r b < 4294967296 := by
  unfold s32
  split
  · omega
  · have : (r / 2) ^^^ 3988292384 < 2 ^ 32 := Nat.xor_lt_two_pow (by omega) (by omega)
    omega
theorem it32_lt (r : Nat) (h : r < 4294967296) : ∀ k, it32 k r < 4294967296
  | 0 => h
  | k + 1 => p32_lt _ (it32_lt r h k)
theorem sr32_lt (x r : Nat) (h : r < 4294967296) : ∀ k, sr32 x k r < 4294967296
  | 0 => h
  | k + 1 => s32_lt _ _ (sr32_lt x r h k)
theorem xor_lt32 (r x : Nat) (h : r < 4294967296) (hx : x < 4294967296) : r ^^^ x < 4294967296 := by
  have : r ^^^ x < 2 ^ 32 := Nat.xor_lt_two_pow (by omega) (by omega)
  omega
theorem byte32_lt (r : Nat) (x : Int) (h : r < 4294967296) (hx : x < 256) : byte32 r x < 4294967296 := it32_lt _ (xor_lt32 _ _ h (by omega)) 8

end Go.Proofs.Ytnpheeendbchbaa.P
end
