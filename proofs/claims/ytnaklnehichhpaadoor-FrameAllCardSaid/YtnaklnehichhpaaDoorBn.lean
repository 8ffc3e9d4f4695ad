/- The contracts of Writer.Bytes, Open. -/
import Derived.Test.YtnaklnehichhpaaDoorBm
import Derived.Maps.AppendAt
namespace Go.Proofs.YtnaklnehichhpaaDoor.P
open Go.RowKit Go.Shelf Go.Proofs.YtnaklnehichhpaaDoor.Bits Go.Proofs.YtnaklnehichhpaaDoorW.PrintWords Go.Proofs.YtnaklnehichhpaaDoorW.PrintLast Go.Proofs.YtnaklnehichhpaaDoorW.PrintMore
set_option linter.unusedVariables false
set_option linter.unusedSimpArgs false
attribute [local go_sem ↓] Go.wp_at_zero Go.wp_at_succ

/-- append of bytes to a row of one's own, as a run. -/
theorem append_run {S : Nat → Prop} (W : World) (v : Value) (xs ys : List Int) (A : Option Addr) (m c : Nat) (HO : RB S W v xs) (HR : Kd.C (Kd.int .u8) W A m ys) (hl : xs.length + m ≤ 140737488355328) :
    ∃ v1 w1, (Builtin.append_ #[24, 24] 24 #[v, .slice A m c]).run Tryd.prog W = .ok v1 w1 ∧ RB (fun k => S k ∨ k = W.heap.size) w1 v1 (xs ++ ys) ∧ W.grownBy w1 v.ownBlock := by
  obtain ⟨i0, hi, hzz⟩ := Option.map_eq_some_iff.1 binfo
  simp only [Prod.mk.injEq] at hzz
  obtain ⟨hz0, hz1, hz2⟩ := hzz
  have HO' := Kd.own_of_R HO
  have HR' := Kd.reads_of_C (enc := Value.int .u8) (d := (0 : Int)) (h1 := fun _ => rfl) HR
  have hm : ys.length = m := HR'.1
  have ht := Tryd.underlying24
  rcases A with _ | ad
  · have h0 : m = 0 := by
      rcases Nat.eq_zero_or_pos m with h0 | h0
      · exact h0
      · obtain ⟨ad, h, _⟩ := HR'.2.2 h0
        cases h
    subst h0
    obtain rfl : ys = [] := List.eq_nil_of_length_eq_zero hm
    refine ⟨v, W, ?_, by rw [List.append_nil]; exact Kd.R_mono HO (fun k hk => .inl hk), World.grownBy.refl W _⟩
    rcases HO'.2 with ⟨rfl, hn⟩ | ⟨g, cap, cur, rfl, _, _, hnc, _⟩
    · simp [Builtin.append_, run_underlying ht, sizeOf, typeInfo, hi, Builtin.lenOf, Builtin.firstCells]
    · simp [Builtin.append_, run_underlying ht, sizeOf, typeInfo, hi, Builtin.lenOf, Builtin.firstCells, hnc, storeCells]
  · have hcells : ∀ j u, (encs (Value.int .u8) ys)[j]? = some u → W.cell? (ad.add j) = some u := by
      intro j u hu
      have hj : j < ys.length := by
        rcases Nat.lt_or_ge j ys.length with h | h
        · exact h
        · simp [encs, List.getElem?_eq_none h] at hu
      obtain ⟨ad', h', hc⟩ := HR'.2.2 (by omega)
      obtain rfl := Option.some.inj h'
      rw [encs_get (d := (0 : Int)) ys j hj] at hu
      rw [← hu]
      exact hc j (by omega)
    obtain ⟨v1, w1, hr, h2, h3, _, h5⟩ := run_append_own_at (P := Tryd.prog) W 0 24 24 5 i0 _ 1 1 ht hi hz0 hz1 hz2 rfl (by omega) v xs.length (encs (Value.int .u8) xs) HO' ad m c (encs (Value.int .u8) ys) (by simp [encs, hm]) hcells
      (by intro u hu; simp only [encs, List.mem_map] at hu; obtain ⟨q, _, rfl⟩ := hu; rfl) (by simp only [maxLen]; omega) (by omega) (Nat.zero_le _)
    refine ⟨v1, w1, hr, Kd.R_of_own (by simpa [encs, hm] using h2) (fun k hk => ?_), h3⟩
    rcases h5 with e | e
    · exact .inl (HO.1 k (by rw [← e]; exact hk))
    · rw [e] at hk; cases hk; exact .inr rfl

abbrev noBytes : Obj := .cells #[] 5 (0, 0)
theorem empty_R (W : World) : RB (fun k => k = W.heap.size) (W.alloc noBytes) (.slice (some ⟨W.heap.size, 0, none⟩) 0 0) [] :=
  Kd.R_of_own (own_lit_of (enc := fun x => Value.int .u8 x) W 0 5 [] (Nat.zero_le _) (by decide)) (fun k hk => by simpa [Value.ownBlock] using hk.symm)

theorem step_run_append {P : Program} {ops : Array Oper} {o : Oper} {a : Act} {K : Act → World → Prop} {Q : Exit → Act → World → Prop} {E : Prop} {W w1 : World} {v1 : Value} (hgd : o.guard = none) (s x : Operand) (t : TypeId)
    (ho : o.op = .call { callee := .builtin .append, args := #[s, x], argTypes := #[t, t] }) (v y : Value) (hs : a.eval s = v) (hx : a.eval x = y) (hrun : (Builtin.append_ #[t, t] o.type #[v, y]).run P W = .ok v1 w1) (h : K (a.put o.dst v1) w1) :
    if Region.wanted o (yielded ops a.tmps) = true then Oper.wp P o a W K Q else E := by
  have hw : Region.wanted o (yielded ops a.tmps) = true := by simp [Region.wanted, hgd]
  rw [if_pos hw]
  unfold Oper.wp execOp
  simp only [ho, resolve, invoke, builtin, Sem.run_bind, Sem.run_pure, Result.andThen_ok, List.map_toArray, List.map_cons, List.map_nil, hs, hx, hrun]
  exact h

set_option maxHeartbeats 1000000 in
set_option maxRecDepth 100000 in
theorem Bytes_any (S : Nat → Prop) (p : Nat) (L : List Int) (w : World) (hW : Wr w S p L) (hL : L.length ≤ 1048576) :
    Calls Tryd.prog 29 #[.pointer (some ⟨p, 0, none⟩)] w fun e w' => ∃ v S', e = .returned v ∧ RB S' w' v (pk L) ∧ (∀ k, S' k → w.heap.size ≤ k) ∧ Below w.heap.size w w' := by
  obtain ⟨v, hblk, hR⟩ := hW.blk
  obtain ⟨A, cv, ev, hcv, hC⟩ := Kd.R_reads hR
  subst ev
  have c0 : w.cell? ⟨p, 0, none⟩ = some (.slice A (pk L).length cv) := by rw [cell_of_row _ _ _ _ _ _ hblk]; rfl
  have hpl := lt_of_block hblk
  have HC := Aside0.mk hC
  have HR := Aside0.mk hR
  clear hblk hR hC hW
  go_enter Tryd.func29, Tryd.ntmps29
  go_wp2_with fail
  obtain ⟨v1, w1, hrun, hr1, hg1⟩ := append_run (S := fun k => k = w.heap.size) (w.alloc noBytes).drew (.slice (some ⟨w.heap.size, 0, none⟩) 0 0) [] (pk L) A (pk L).length (pk L).length (Kd.R_drew (empty_R w)) (Kd.C_drew (Kd.C_alloc HC.out _)) (by simp [pk_length]; omega)
  have HR1 := Aside0.mk hr1
  have HG1 := Aside0.mk hg1
  have HRUN := Aside0.mk hrun
  have hk1 : w1.cell? ⟨p, 0, none⟩ = some (.slice A (pk L).length cv) := by
    have h1 : (w.alloc noBytes).drew.cell? ⟨p, 0, none⟩ = some (.slice A (pk L).length cv) := (World.cell?_alloc_lt w noBytes ⟨p, 0, none⟩ hpl).trans c0
    refine (World.cell?_of_block (hg1.block p (by simp; omega) (fun e => ?_))).trans h1
    have : p = w.heap.size := by simpa [Value.ownBlock] using e
    omega
  clear hr1 hg1 hrun
  go_region_held3 (fun w' => w'.cell? ⟨p, 0, none⟩ = some (.slice A (pk L).length cv))
    (first | assumption | go_keep)
    ((refine step_run_append (by rfl) _ _ _ (by rfl) _ _ (by rfl) (by rfl) HRUN.out ?_))
  go_wp2_with fail
  go_ret
  refine ⟨v1, _, rfl, by have := HR1.out; rwa [List.nil_append] at this, ?_, ?_⟩
  · rintro k (rfl | rfl)
    · exact Nat.le_refl _
    · simp
  · refine (below_drew (below_alloc (Below.refl _ _) _)).grown HG1.out (by simp) (fun k hk => ?_)
    have : w.heap.size = k := by simpa [Value.ownBlock] using hk
    omega

theorem wpList_run_append {P : Program} {ops : Array Oper} {rest : List Oper} {o : Oper} {a : Act} {Q : Exit → Act → World → Prop} {W w1 : World} {v1 : Value} (hgd : o.guard = none) (s x : Operand) (t : TypeId)
    (ho : o.op = .call { callee := .builtin .append, args := #[s, x], argTypes := #[t, t] }) (v y : Value) (hs : a.eval s = v) (hx : a.eval x = y) (hrun : (Builtin.append_ #[t, t] o.type #[v, y]).run P W = .ok v1 w1) (h : wpList P ops Q rest (a.put o.dst v1) w1) :
    wpList P ops Q (o :: rest) a W := by
  refine wpList_plain hgd fun K hK => ?_
  unfold Oper.wp execOp
  simp only [ho, resolve, invoke, builtin, Sem.run_bind, Sem.run_pure, Result.andThen_ok, List.map_toArray, List.map_cons, List.map_nil, hs, hx, hrun]
  exact hK _ _ h

def openE (B : List Int) (n : Int) : Int := if n < 0 ∨ 8 * (B.length : Int) < n then 1 else if 1048576 < n then 2 else 0
/-- What Open gives: no reader, and an error; or a reader of the bits. -/
def OpenPost (w : World) (B : List Int) (n : Int) (e : Ending) (w' : World) : Prop :=
  if openE B n = 0 then ∃ p S, e = .returned (.tuple #[.pointer (some ⟨p, 0, none⟩), .int .i64 0]) ∧ Rd w' S p (ofB B n.toNat) 0 ∧ w.heap.size ≤ p ∧ (∀ k, S k → w.heap.size ≤ k) ∧ Below w.heap.size w w'
  else e = .returned (.tuple #[.pointer none, .int .i64 (openE B n)]) ∧ w' = w
theorem bitAt_take (B : List Int) (m i : Nat) (h : i / 8 < m) : bitAt (B.take m) i = bitAt B i := by
  unfold bitAt
  rw [List.getD_eq_getElem?_getD, List.getElem?_take, if_pos h, ← List.getD_eq_getElem?_getD]
theorem ofB_take' (B : List Int) (m n : Nat) (h : n ≤ 8 * m) : ofB (B.take m) n = ofB B n := by
  unfold ofB
  apply List.map_congr_left
  intro i hi
  have := List.mem_range.1 hi
  exact bitAt_take B m i (by omega)

set_option maxHeartbeats 1000000 in
set_option maxRecDepth 100000 in
theorem Open_any (A : Option Addr) (c : Nat) (B : List Int) (n : Int) (w : World) (hC : Kd.C (Kd.int .u8) w A B.length B) (hB : is8 B) (hBl : B.length ≤ 1000000000) (hc : B.length ≤ c) :
    Calls Tryd.prog 61 #[.slice A B.length c, .int .i64 n] w (OpenPost w B n) := by
  have HC := Aside0.mk hC
  have H8 := Aside0.mk hB
  clear hC hB
  by_cases h1 : n < 0
  · have HN : Aside0 (openE B n = 1) := ⟨by unfold openE; rw [if_pos (.inl h1)]⟩
    have d1 : decide (n < 0) = true := by simpa using h1
    go_enter Tryd.func61, Tryd.ntmps61
    go_wp2_with fail
    go_ret2
    unfold OpenPost
    rw [HN.out, if_neg (by decide)]
    exact ⟨rfl, rfl⟩
  obtain ⟨m, rfl⟩ : ∃ m : Nat, n = m := ⟨n.toNat, by omega⟩
  have d1 : decide ((m : Int) < 0) = false := by simp
  by_cases h2 : 8 * (B.length : Int) < m
  · have HN : Aside0 (openE B m = 1) := ⟨by unfold openE; rw [if_pos (.inr h2)]⟩
    have d2 : decide (8 * (B.length : Int) < (m : Int)) = true := by simpa using h2
    clear h1
    go_enter Tryd.func61, Tryd.ntmps61
    go_wp2_with fail
    go_ret2
    unfold OpenPost
    rw [HN.out, if_neg (by decide)]
    exact ⟨rfl, rfl⟩
  have d2 : decide (8 * (B.length : Int) < (m : Int)) = false := by simpa using h2
  by_cases h3 : 1048576 < (m : Int)
  · have HN : Aside0 (openE B m = 2) := ⟨by unfold openE; rw [if_neg (by omega), if_pos h3]⟩
    have d3 : decide (1048576 < (m : Int)) = true := by simpa using h3
    clear h1
    go_enter Tryd.func61, Tryd.ntmps61
    go_wp2_with fail
    go_ret2
    unfold OpenPost
    rw [HN.out, if_neg (by decide)]
    exact ⟨rfl, rfl⟩
  · have HN : Aside0 (openE B m = 0) := ⟨by unfold openE; rw [if_neg (by omega), if_neg h3]⟩
    have d3 : decide (1048576 < (m : Int)) = false := by simpa using h3
    have hm : m ≤ 1048576 := by omega
    have hm8 : m ≤ 8 * B.length := by omega
    obtain ⟨q, hq⟩ : ∃ q, q = (m + 7) / 8 := ⟨_, rfl⟩
    have hqB : q ≤ B.length := by omega
    have w1' : ((m : Int) + 7) / 8 = (q : Int) := by omega
    have hsl : ∀ W : World, (Instr.slice 24 (.slice A B.length c) none (some (.int .i64 (q : Int))) none).run Tryd.prog W = .ok (.slice A q c) W := by
      intro W
      have := cut_to (P := Tryd.prog) 24 5 .i64 Tryd.underlying24 (i := _) rfl A B.length c (q : Int) (by omega) (by omega) hc W
      simpa using this
    have hl : (B.take q).length = q := by rw [List.length_take]; omega
    have hCt := Kd.C_take HC.out hqB
    rw [hl] at hCt
    obtain ⟨v1, w1, hrun, hr1, hg1⟩ := append_run (S := fun k => k = w.heap.size) (w.alloc noBytes) (.slice (some ⟨w.heap.size, 0, none⟩) 0 0) [] (B.take q) A q c (empty_R w) (Kd.C_alloc hCt _) (by simp; omega)
    rw [List.nil_append] at hr1
    obtain ⟨Av, cv, ev⟩ := Kd.R_slice hr1
    subst ev
    rw [hl] at hr1 hrun
    have HQ := Aside0.mk hq
    have HR1 := Aside0.mk hr1
    have HG1 := Aside0.mk hg1
    have HRUN := Aside0.mk hrun
    have HL := Aside0.mk hl
    clear hr1 hg1 hrun h1 h2 h3 hCt hq hl
    go_enter Tryd.func61, Tryd.ntmps61
    go_wp2_with (at_builtin; refine wpList_run_append rfl _ _ _ rfl _ _ rfl rfl HRUN.out ?_)
    go_ret2
    unfold OpenPost
    rw [HN.out, if_pos rfl, Int.toNat_natCast]
    have hb1 : Below w.heap.size w w1 := (below_alloc (Below.refl _ _) _).grown HG1.out (by simp) (fun k hk => by
      have : w.heap.size = k := by simpa [Value.ownBlock] using hk
      omega)
    have hr1 := Kd.R_bound HR1.out
    have hsz := hb1.size
    have hq := HQ.out
    refine ⟨w1.heap.size, fun k => (k = w.heap.size ∨ k = (w.alloc noBytes).heap.size) ∧ ∃ cells, (w1.alloc (.cells #[.slice Av q cv, .int .i64 (m : Int), .int .i64 0] 114)).heap[k]? = some (.cells cells 5 (0, 0)), rfl, ⟨⟨.slice Av q cv, B.take q, ?_, ?_, ?_, ?_, ?_, ?_⟩, Nat.zero_le _, by rw [ofB_length]; exact hm, fun k hk => hk.2⟩, hsz, ?_, ?_⟩
    · rw [ofB_length]; exact World.alloc_heap_new w1 _
    · refine Kd.R_mono (Kd.R_alloc hr1 _) (fun k hk => ⟨hk.1, ?_⟩)
      obtain ⟨q', hq', cells, hc⟩ := hk.2.2.2
      obtain rfl : q' = 5 := by simpa [Kd.int, Kd.scalar] using hq'
      exact ⟨cells, blk_alloc' hc _⟩
    · exact fun b hb => H8.out b (List.mem_of_mem_take hb)
    · rw [ofB_length]; exact ofB_take' B q m (by omega)
    · rw [ofB_length, HL.out]; omega
    · rw [HL.out]; omega
    · rintro k ⟨(rfl | rfl), _⟩
      · exact Nat.le_refl _
      · simp
    · exact hb1.alloc hsz _
end Go.Proofs.YtnaklnehichhpaaDoor.P
