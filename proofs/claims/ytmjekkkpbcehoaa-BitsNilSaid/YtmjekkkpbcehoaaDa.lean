/- The contract of written. -/
import Derived.Test.YtmjekkkpbcehoaaBx
import Derived.Test.YtmjekkkpbcehoaaCa
namespace Go.Proofs.Ytmjekkkpbcehoaa.P
open Go.RowKit Go.Shelf Go.Proofs.Ytmjekkkpbcehoaa.Bits Go.Proofs.YtmjekkkpbcehoaaW.PrintWords Go.Proofs.YtmjekkkpbcehoaaW.PrintLast Go.Proofs.YtmjekkkpbcehoaaW.PrintMore
set_option linter.unusedVariables false
set_option linter.unusedSimpArgs false
attribute [local go_sem ↓] Go.wp_at_zero Go.wp_at_succ

theorem opinfo : (Try.prog.info? 41).map (fun i => (i.zero, i.size, i.bytes)) = some (some (.agg #[.int .u8 0, .int .i64 0, .int .i64 0, .slice none 0 0]), 4, 48) := by kernel_rfl
/-- The cells of a call. -/
def OpD.cells (o : OpD) : List Value := [.int .u8 (o.kind : Int), .int .i64 o.v, .int .i64 o.n, .slice o.A o.B.length o.c]
def flatOps (ops : List OpD) : List Value := (ops.map OpD.cells).flatten
theorem flatOps_length (ops : List OpD) : (flatOps ops).length = ops.length * 4 := by
  unfold flatOps
  induction ops with
  | nil => rfl
  | cons o l ih => rw [List.map_cons, List.flatten_cons, List.length_append, ih, List.length_cons]; simp [OpD.cells]; omega
theorem flatOps_snoc (ops : List OpD) (o : OpD) : flatOps (ops ++ [o]) = flatOps ops ++ o.cells := by simp [flatOps]
theorem flatOps_get : ∀ (ops : List OpD) (i j : Nat) (h : i < ops.length), j < 4 → (flatOps ops)[i * 4 + j]? = ops[i].cells[j]?
  | o :: l, 0, j, _, hj => by
    show (flatOps (o :: l))[0 * 4 + j]? = _
    unfold flatOps
    rw [List.map_cons, List.flatten_cons, List.getElem?_append_left (by simp [OpD.cells]; omega)]
    simp
  | o :: l, i + 1, j, h, hj => by
    have := flatOps_get l i j (by simpa using h) hj
    unfold flatOps at this ⊢
    rw [List.map_cons, List.flatten_cons, List.getElem?_append_right (by simp [OpD.cells]; omega)]
    have e : (i + 1) * 4 + j - o.cells.length = i * 4 + j := by simp [OpD.cells]; omega
    rw [e, this]
    simp
/-- The calls that had no error. -/
def wDone : List Int → List OpD → List OpD
  | _, [] => []
  | L, o :: r => if (wOp L o).1 = 0 then o :: wDone (wOp L o).2 r else wDone (wOp L o).2 r
def wRunFrom (L : List Int) (ops : List OpD) : List Int := ops.foldl (fun L o => (wOp L o).2) L
theorem wDone_snoc : ∀ (ops : List OpD) (L : List Int) (o : OpD), wDone L (ops ++ [o]) = wDone L ops ++ (if (wOp (wRunFrom L ops) o).1 = 0 then [o] else [])
  | [], L, o => by
    rw [List.nil_append, wDone, wDone, List.nil_append]
    rfl
  | a :: r, L, o => by
    rw [List.cons_append, wDone, wDone, wDone_snoc r (wOp L a).2 o]
    show _ = (if _ then _ else _) ++ (if (wOp (wRunFrom (wOp L a).2 r) o).1 = 0 then [o] else [])
    split <;> rfl
theorem wDone_le : ∀ (ops : List OpD) (L : List Int), (wDone L ops).length ≤ ops.length
  | [], L => Nat.le_refl _
  | o :: r, L => by
    rw [wDone]
    have := wDone_le r (wOp L o).2
    split <;> simp <;> omega
theorem wDone_mem : ∀ (ops : List OpD) (L : List Int) (o : OpD), o ∈ wDone L ops → o ∈ ops
  | [], L, o, h => by cases h
  | a :: r, L, o, h => by
    rw [wDone] at h
    split at h
    · rcases List.mem_cons.1 h with e | h
      · exact List.mem_cons.2 (.inl e)
      · exact List.mem_cons_of_mem _ (wDone_mem r _ o h)
    · exact List.mem_cons_of_mem _ (wDone_mem r _ o h)

/-- A row of calls of one's own, made from base on. -/
def OutAt (w : World) (base : Nat) (v : Value) (ops : List OpD) : Prop := w.ownsRow base 41 4 v ops.length (flatOps ops)
theorem OutAt.fr {w w' : World} {base : Nat} {v : Value} {ops : List OpD} {T : Nat → Prop} (h : OutAt w base v ops) (hf : Fr T w w') (hT : ∀ k cs, T k → k < w.heap.size → w.heap[k]? ≠ some (.cells cs 41 (0, 0))) : OutAt w' base v ops := by
  refine ⟨h.1, ?_⟩
  rcases h.2 with hn | ⟨g, cap, cur, rfl, hb, hg, rest⟩
  · exact .inl hn
  · exact .inr ⟨g, cap, cur, rfl, hb, blk_fr hg hf (fun ht => hT g cur ht (lt_of_block hg) hg), rest⟩
theorem OutAt.below {w w' : World} {base : Nat} {v : Value} {ops : List OpD} (h : OutAt w base v ops) (hb : Below w.heap.size w w') : OutAt w' base v ops :=
  h.fr (Fr.below hb (fun _ => False)) (fun _ _ hk => hk.elim)
theorem OutAt.wr {w w' : World} {base : Nat} {v : Value} {ops : List OpD} {S : Nat → Prop} {p : Nat} {L L0 : List Int} (h : OutAt w base v ops) (h0 : Wr w S p L0) (h1 : WrTo w S p L w') : OutAt w' base v ops := by
  obtain ⟨S1, _, _, f⟩ := h1
  refine h.fr f (fun k cs hk _ he => ?_)
  rcases hk with rfl | q
  · obtain ⟨v, hk, _⟩ := h0.blk
    exact blk_ne he hk (by decide) rfl
  · obtain ⟨cells, hk⟩ := h0.typed k q
    exact blk_ne he hk (by decide) rfl
theorem OutAt.nil (w : World) (base : Nat) : OutAt w base (.slice none 0 0) [] := World.ownsRow_nil w base _ _
/-- They read as calls in memory. -/
theorem OutAt.ops {w : World} {base : Nat} {v : Value} {ops : List OpD} (h : OutAt w base v ops) (hok : ∀ o ∈ ops, o.ok w) : ∃ X c, v = .slice X ops.length c ∧ OpsAt w X ops := by
  have hc := h
  rcases h.2 with ⟨rfl, hn⟩ | ⟨g, cap, cur, rfl, hb, hg, rest⟩
  · have h0 : ops.length = 0 := hn
    obtain rfl := List.eq_nil_of_length_eq_zero h0
    exact ⟨none, 0, rfl, ⟨fun i hi => by simp at hi, hok⟩⟩
  · refine ⟨_, _, rfl, ⟨fun i hi => ?_, hok⟩⟩
    have hcell : ∀ j, j < 4 → ∀ u, ops[i].cells[j]? = some u → w.cell? ((⟨g, 0, none⟩ : Addr).add (i * 4 + j)) = some u := fun j hj u hu =>
      World.ownsRow.cells hc rfl _ _ ((flatOps_get ops i j hi hj).trans hu)
    have e0 := hcell 0 (by omega) _ rfl
    have e1 := hcell 1 (by omega) _ rfl
    have e2 := hcell 2 (by omega) _ rfl
    have e3 := hcell 3 (by omega) _ rfl
    simp only [Addr.add_lit, Nat.add_zero, Nat.zero_add] at e0 e1 e2 e3
    refine ⟨⟨g, 0, none⟩, rfl, ?_, ?_, ?_, ?_⟩ <;> simp only [Addr.add_lit, Nat.zero_add] <;> assumption
theorem OutAt.typed {w : World} {base : Nat} {v : Value} {ops : List OpD} (h : OutAt w base v ops) (j : Nat) (hj : v.ownBlock = some j) : (∃ cs, w.heap[j]? = some (.cells cs 41 (0, 0))) ∧ base ≤ j := by
  rcases h.2 with ⟨rfl, hn⟩ | ⟨g, cap, cur, rfl, hb, hg, rest⟩
  · simp [Value.ownBlock] at hj
  · simp [Value.ownBlock] at hj
    subst hj
    exact ⟨⟨cur, hg⟩, hb⟩
theorem append_op (W : World) (base : Nat) (v : Value) (ops : List OpD) (o : OpD) (g : Nat) (h : OutAt W base v ops) (hg : W.heap[g]? = some (.cells o.cells.toArray 41 (0, 0))) (hl : ops.length ≤ 100) (hb : base ≤ W.heap.size) :
    ∃ v1 w1, (Builtin.append_ #[31, 31] 31 #[v, .slice (some ⟨g, 0, none⟩) 1 1]).run Try.prog W = .ok v1 w1 ∧ OutAt w1 base v1 (ops ++ [o]) ∧ W.grownBy w1 v.ownBlock := by
  obtain ⟨i0, hi, hzz⟩ := Option.map_eq_some_iff.1 opinfo
  simp only [Prod.mk.injEq] at hzz
  obtain ⟨hz0, hz1, hz2⟩ := hzz
  obtain ⟨v1, w1, hr, h2, h3, _, _⟩ := run_append_own_at (P := Try.prog) W base 31 31 41 i0 _ 4 48 Try.underlying31 hi hz0 hz1 hz2 rfl (by omega) v ops.length (flatOps ops) h ⟨g, 0, none⟩ 1 1 o.cells (by simp [OpD.cells])
    (fun j u hu => by
      rw [show (⟨g, 0, none⟩ : Addr).add j = ⟨g, j, none⟩ by simp [Addr.add_lit], cell_of_row W g j o.cells.toArray _ (0, 0) hg]
      simpa using hu)
    (by intro u hu; simp [OpD.cells] at hu; rcases hu with rfl | rfl | rfl | rfl <;> rfl) (by simp only [maxLen]; omega) (by omega) hb
  exact ⟨v1, w1, hr, by unfold OutAt; rw [flatOps_snoc, List.length_append]; exact h2, h3⟩

set_option maxHeartbeats 4000000 in
set_option maxRecDepth 100000 in
theorem written_any (X : Option Addr) (c : Nat) (ops : List OpD) (w : World) (h : OpsAt w X ops) (hf : fewB ops = true) :
    Calls Try.prog 26 #[.slice X ops.length c] w fun e w' => ∃ p S v, e = .returned (.tuple #[.pointer (some ⟨p, 0, none⟩), v]) ∧ Wr w' S p (wRun ops) ∧ (∀ k, S k → w.heap.size ≤ k) ∧ w.heap.size ≤ p ∧ OutAt w' w.heap.size v (wDone [] ops) ∧ Below w.heap.size w w' := by
  have HO := Aside0.mk h
  have hf2 : bulk ops ≤ 140000 ∧ ops.length ≤ 60 := by
    unfold fewB at hf
    rw [Bool.and_eq_true, decide_eq_true_eq, decide_eq_true_eq] at hf
    exact hf
  obtain ⟨hbulk, hl60⟩ := hf2
  clear h hf
  go_enter Try.func26, Try.ntmps26
  go_wp2_with fail
  refine (New_any w).mono ?_
  rintro e w1 ⟨rfl, rfl⟩
  have HN := Aside0.mk (Wr.new w)
  have HB0 := Aside0.mk (below_alloc (Below.refl w.heap.size w) newWr)
  obtain ⟨p, hp⟩ : ∃ p, p = w.heap.size := ⟨_, rfl⟩
  obtain ⟨z, hz⟩ : ∃ z, z = w.heap.size := ⟨_, rfl⟩
  have HZ := Aside0.mk hz
  have hpz : z ≤ p := by omega
  go_wp2_with fail
  have HO0 := Aside0.mk (OutAt.nil (w.alloc newWr) w.heap.size)
  have HP : Aside0 (w.heap.size ≤ p) := ⟨by omega⟩
  rw [← hp] at HN ⊢
  clear hp hz hpz HZ
  go_loopw [5, 11] (fun s5 i wr => ∃ (k : Nat) (S : Nat → Prop), i = .int .i64 (k : Int) ∧ k ≤ ops.length ∧ Aside0 (Wr wr S p (wRun (ops.take k))) ∧ Aside0 (∀ j, S j → w.heap.size ≤ j) ∧ Aside0 (OutAt wr w.heap.size s5 (wDone [] (ops.take k))) ∧ Aside0 (Below w.heap.size w wr)) (fun _ i _ => ops.length - (intOf i).toNat)
  case atStart => exact ⟨0, _, rfl, Nat.zero_le _, HN, ⟨fun _ h => h.elim⟩, HO0, HB0⟩
  case round =>
    obtain ⟨k, S, rfl, hk, HW, HS, HOut, HB⟩ := hrel
    by_cases hlt : k < ops.length
    · have hOr := HO.out.below HB.out
      obtain ⟨x, e, h0, h1, h2, h3⟩ := hOr.cells k hlt
      subst e
      have hok := hOr.ok ops[k] (List.getElem_mem hlt)
      have hbl := Nat.le_trans (bulk_mem ops ops[k] (List.getElem_mem hlt)) hbulk
      have hokw := HO.out.ok ops[k] (List.getElem_mem hlt)
      have HA : Aside0 (∀ ad, ops[k].A = some ad → 0 < ops[k].B.length → ad.block < w.heap.size) := ⟨fun ad e hn => hokw.blk ad e hn⟩
      have HT := Aside0.mk (wRun_take ops k hlt)
      have hds := wDone_snoc (ops.take k) [] ops[k]
      rw [← List.take_succ_eq_append_getElem hlt] at hds
      have HDS := Aside0.mk (show wDone [] (ops.take (k + 1)) = wDone [] (ops.take k) ++ (if (wOp (wRun (ops.take k)) ops[k]).1 = 0 then [ops[k]] else []) from hds)
      have hdl : (wDone [] (ops.take k)).length ≤ 60 := by
        have := wDone_le (ops.take k) []
        rw [List.length_take] at this
        omega
      have hL := wRun_len ops k
      have HOK := Aside0.mk hok
      generalize wRun (ops.take k) = L at *
      generalize wDone [] (ops.take k) = D at *
      generalize hOK : ops[k] = o at *
      clear hOr hokw hok hOK hds
      have HKK := Aside0.mk (HOK.out.kind)
      obtain ⟨kind, v, n, A, co, B⟩ := o
      dsimp only at h0 h1 h2 h3 hbl HA
      go_wp2_with fail
      obtain ⟨wb, hwb⟩ : ∃ wb, wb = wr.alloc (.cells #[.int .u8 (kind : Int), .int .i64 v, .int .i64 n, .slice A B.length co] 41) := ⟨_, rfl⟩
      rw [← hwb]
      have hbk : wb.heap[wr.heap.size]? = some (.cells #[.int .u8 (kind : Int), .int .i64 v, .int .i64 n, .slice A B.length co] 41 (0, 0)) := by rw [hwb]; exact World.alloc_heap_new wr _
      have hBb : Below wr.heap.size wr wb := by rw [hwb]; exact below_alloc (Below.refl _ _) _
      obtain ⟨bx, hbx⟩ : ∃ bx, bx = wr.heap.size := ⟨_, rfl⟩
      rw [← hbx] at hbk ⊢
      have HWb := Aside0.mk (HW.out.below hBb)
      have HOb := Aside0.mk (HOut.out.below hBb)
      have HOKb := Aside0.mk (HOK.out.below hBb)
      have HBb := Aside0.mk (HB.out.trans (hBb.mono HB.out.size))
      have HBK := Aside0.mk hbk
      have HAw : Aside0 (∀ ad, A = some ad → 0 < B.length → ¬ (ad.block = p ∨ S ad.block)) := ⟨fun ad e hn => by
        have h1 := HA.out ad e hn
        rintro (q | q)
        · have := HP.out; omega
        · have := HS.out _ q; omega⟩
      clear h0 h1 h2 h3 hbk hBb hwb hbx HW HOK HB HOut
      refine (write_any S p L ⟨kind, v, n, A, co, B⟩ _ HWb.out hL HOKb.out hbl HAw.out).mono ?_
      rintro e w2 ⟨rfl, h2⟩
      have hk2 := h2.box HWb.out HBK.out
      have b0 : w2.cell? ⟨bx, 0, none⟩ = some (.int .u8 (kind : Int)) := by rw [cell_of_row _ _ _ _ _ _ hk2]; rfl
      have b1 : w2.cell? ⟨bx, 1, none⟩ = some (.int .i64 v) := by rw [cell_of_row _ _ _ _ _ _ hk2]; rfl
      have b2 : w2.cell? ⟨bx, 2, none⟩ = some (.int .i64 n) := by rw [cell_of_row _ _ _ _ _ _ hk2]; rfl
      have b3 : w2.cell? ⟨bx, 3, none⟩ = some (.slice A B.length co) := by rw [cell_of_row _ _ _ _ _ _ hk2]; rfl
      have HO2 := Aside0.mk (HOb.out.wr HWb.out h2)
      obtain ⟨S2, hW2, hS2, hf2⟩ := h2
      have HW2 := Aside0.mk hW2
      have HS2 : Aside0 (∀ j, S2 j → w.heap.size ≤ j) := ⟨fun j hj => by
        rcases hS2 j hj with q | q
        · exact HS.out j q
        · exact Nat.le_trans HBb.out.size q⟩
      have HB2 := Aside0.mk (HBb.out.trans (hf2.to_below HBb.out.size (fun j hj => by
        rcases hj with rfl | q
        · exact HP.out
        · exact HS.out j q)))
      have HKK := Aside0.mk hk2
      clear hk2 hW2 hS2 hf2 HBK HOb HWb HOKb HBb HAw HA
      generalize (wOp L ⟨kind, v, n, A, co, B⟩).1 = er at *
      by_cases her : er = 0
      · have q1 : (er == 0) = true := by simp [her]
        have HDS2 : Aside0 (wDone [] (List.take (k + 1) ops) = D ++ [⟨kind, v, n, A, co, B⟩]) := ⟨by rw [HDS.out, if_pos her]⟩
        clear her HDS
        have hap : ∃ v1 w1, _ := append_op (w2.alloc (.cells #[.int .u8 (kind : Int), .int .i64 v, .int .i64 n, .slice A B.length co] 41)) w.heap.size u5 D ⟨kind, v, n, A, co, B⟩ w2.heap.size (HO2.out.below (below_alloc (Below.refl _ _) _)) (World.alloc_heap_new w2 _) (by omega) (by have := HB2.out.size; simp; omega)
        obtain ⟨v1, w3, hrun, hO3, hg3⟩ := hap
        have HRUN := Aside0.mk hrun
        have HO3 := Aside0.mk hO3
        clear hrun hO3
        go_wp2_with (at_builtin; refine wpList_run_append rfl _ _ _ rfl _ _ rfl rfl HRUN.out ?_)
        go_roundw
        case rel =>
          have hf3 : Fr (fun j => u5.ownBlock = some j) w2 w3 := (Fr.alloc (Fr.refl _ _) _).grown hg3 (fun k _ h => h)
          have hnw : ∀ j cs t, t ≠ 41 → w2.heap[j]? = some (.cells cs t (0, 0)) → ¬ u5.ownBlock = some j := fun j cs t ht hc hj => by
            obtain ⟨⟨cs', h1⟩, _⟩ := HO2.out.typed j hj
            exact blk_ne hc h1 ht rfl
          have hW3 : Wr w3 S2 p (wOp L ⟨kind, v, n, A, co, B⟩).2 := by
            refine HW2.out.fr hf3 ?_ ?_
            · obtain ⟨vv, hb, _⟩ := HW2.out.blk
              exact hnw _ _ _ (by decide) hb
            · intro j hj
              obtain ⟨cells, hb⟩ := HW2.out.typed j hj
              exact hnw _ _ _ (by decide) hb
          exact ⟨k + 1, S2, by go_num, by omega, ⟨by rw [HT.out]; exact hW3⟩, HS2, ⟨by rw [HDS2.out]; exact HO3.out⟩, ⟨HB2.out.trans (hf3.to_below HB2.out.size (fun j hj => (HO2.out.typed j hj).2))⟩⟩
        case measure => simp [intOf]; omega
      · have q1 : (er == 0) = false := by simp [her]
        have HDS2 : Aside0 (wDone [] (List.take (k + 1) ops) = D) := ⟨by rw [HDS.out, if_neg her, List.append_nil]⟩
        clear her HDS
        go_wp2_with fail
        go_roundw
        case rel => exact ⟨k + 1, S2, by go_num, by omega, ⟨by rw [HT.out]; exact HW2.out⟩, HS2, ⟨by rw [HDS2.out]; exact HO2.out⟩, HB2⟩
        case measure => simp [intOf]; omega
    · obtain rfl : k = ops.length := by omega
      rw [List.take_length] at HW HOut
      go_wp2_with fail
      go_ret2
      exact ⟨p, S, _, rfl, HW.out, HS.out, HP.out, HOut.out, HB.out⟩
end Go.Proofs.Ytmjekkkpbcehoaa.P
