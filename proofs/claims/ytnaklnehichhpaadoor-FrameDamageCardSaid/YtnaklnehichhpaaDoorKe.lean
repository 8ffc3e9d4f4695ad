/- The iterator of a header's fields. -/
import Derived.Test.YtnaklnehichhpaaDoorKd
import Derived.Test.YtnaklnehichhpaaDoorBf
namespace Go.Proofs.YtnaklnehichhpaaDoor.P
open Go.RowKit Go.Shelf Go.Proofs.YtnaklnehichhpaaDoor.Bits Go.Proofs.YtnaklnehichhpaaDoorW.PrintWords Go.Proofs.YtnaklnehichhpaaDoorW.PrintLast Go.Proofs.YtnaklnehichhpaaDoorW.PrintMore
set_option linter.unusedVariables false
set_option linter.unusedSimpArgs false

theorem wpListIn_run_append {F : Fence} {n : Nat} {P : Program} {ops : Array Oper} {rest : List Oper} {o : Oper} {a : Act} {Q : Exit → Act → World → Prop} {W w1 : World} {v1 : Value} (hgd : o.guard = none) (s x : Operand) (t : TypeId)
    (ho : o.op = .call { callee := .builtin .append, args := #[s, x], argTypes := #[t, t] }) (v y : Value) (hs : a.eval s = v) (hx : a.eval x = y) (hrun : (Builtin.append_ #[t, t] o.type #[v, y]).run P W = .ok v1 w1) (h : wpListIn F n P ops Q rest (a.put o.dst v1) w1) :
    wpListIn F n P ops Q (o :: rest) a W := by
  refine wpListIn_plain hgd fun K hK' => ?_
  unfold Oper.wpIn
  refine ⟨?_, ?_⟩
  · simp [Oper.about, ho, resolve, Target.leads, Sem.run_pure]
  · rw [Oper.semAt_plain F _ _ (by rw [ho]; intro c hc'; cases hc')]
    simp [execOp, ho, resolve, invoke, builtin, hs, hx, hrun, Result.andThen]
    exact hK' _ _ h

abbrev hdObj (h : HD) : Obj := .cells #[.int .i64 h.num, .bool h.lossy, .int .i64 h.rate, .int .i64 h.ch, .int .i64 h.kind, .int .i64 h.count, .int .i64 h.back] 23 (0, 0)
/-- The iterator that frame.fields gives. -/
abbrev seqF (bh bs : Nat) : Value := .func (.func 44) #[] #[.pointer (some ⟨bh, 0, none⟩), .pointer (some ⟨bs, 0, none⟩)]
section
attribute [local go_sem ↓] Go.wp_at_zero Go.wp_at_succ
theorem fields_any (h : HD) (n : Int) (w : World) : Calls Tryd.prog 28 #[h.val, .int .i64 n] w fun e w' => e = .returned (seqF w.heap.size (w.heap.size + 1)) ∧ w' = (w.alloc (hdObj h)).alloc (intBox n) := by
  obtain ⟨num, lossy, rate, ch, kind, count, back⟩ := h
  unfold HD.val
  dsimp only
  go_enter Tryd.func28, Tryd.ntmps28
  go_wp2
  go_ret
  simp
end
/-- Blocks of other cells than bytes stay, but for p. -/
def Keep (p : Nat) (w w' : World) : Prop := w.heap.size ≤ w'.heap.size ∧ ∀ k cs t fr, k ≠ p → t ≠ 5 → w.heap[k]? = some (.cells cs t fr) → w'.heap[k]? = some (.cells cs t fr)
theorem Keep.trans {p : Nat} {a b c : World} (h : Keep p a b) (k : Keep p b c) : Keep p a c := ⟨Nat.le_trans h.1 k.1, fun i cs t fr hi ht e => k.2 i cs t fr hi ht (h.2 i cs t fr hi ht e)⟩
theorem Keep.alloc (p : Nat) (w : World) (o : Obj) : Keep p w (w.alloc o) := ⟨by simp, fun k cs t fr _ _ e => blk_alloc' e o⟩
theorem hflds_length (h : HD) (n : Nat) : (hflds h n).length = 10 := rfl

attribute [local go_sem] Oper.semAt_some
set_option maxHeartbeats 4000000 in
set_option maxRecDepth 100000 in
theorem fields_stops (m bh bs n p : Nat) (h : HD) (w : World) (hbh : w.heap[bh]? = some (hdObj h)) (hbs : w.heap[bs]? = some (intBox n)) (hg : HG w) (hok : OkH h) (hn : n ≤ 2047) (hp : p < w.heap.size) :
    SeqStopsK Fence.wide m Tryd.prog 44 #[.pointer (some ⟨bh, 0, none⟩), .pointer (some ⟨bs, 0, none⟩)] (fun x : Int × Nat => #[.agg #[Value.int .i64 x.1, .int .i64 (x.2 : Int)]]) (Keep p) (fun xs => xs = hflds h n) (fun _ => True) 10 w := by
  intro l J Jx W hW hJ hJx hY h0
  have hbhW := (hW.block bh (lt_of_block hbh)).trans hbh
  have hbsW := (hW.block bs (lt_of_block hbs)).trans hbs
  have hgW := hg.below hW
  have hpW : p < W.heap.size := Nat.lt_of_lt_of_le hp hW.size
  clear hbh hbs hg hW hp
  have HFS : Aside0 (hflds h n = [(4013, 12), (h.num, 6), (one h.lossy, 1), (h.ch - 1, 1), (rix h.rate, 4), (h.kind, 3), (h.count - 1, 7), ((n : Int), 11), (h.back, 9), (0, 2)]) := ⟨rfl⟩
  have hlen := hflds_length h n
  obtain ⟨num, lossy, rate, ch, kind, count, back⟩ := h
  have h1 := hok.ch
  have h2 := hok.count
  dsimp only at *
  generalize hflds ⟨num, lossy, rate, ch, kind, count, back⟩ n = fs at *
  have c0 : W.cell? ⟨bh, 0, none⟩ = some (.int .i64 num) := by rw [cell_of_row _ _ _ _ _ _ hbhW]; rfl
  have c1 : W.cell? ⟨bh, 1, none⟩ = some (.bool lossy) := by rw [cell_of_row _ _ _ _ _ _ hbhW]; rfl
  have c2 : W.cell? ⟨bh, 2, none⟩ = some (.int .i64 rate) := by rw [cell_of_row _ _ _ _ _ _ hbhW]; rfl
  have c3 : W.cell? ⟨bh, 3, none⟩ = some (.int .i64 ch) := by rw [cell_of_row _ _ _ _ _ _ hbhW]; rfl
  have c4 : W.cell? ⟨bh, 4, none⟩ = some (.int .i64 kind) := by rw [cell_of_row _ _ _ _ _ _ hbhW]; rfl
  have c5 : W.cell? ⟨bh, 5, none⟩ = some (.int .i64 count) := by rw [cell_of_row _ _ _ _ _ _ hbhW]; rfl
  have c6 : W.cell? ⟨bh, 6, none⟩ = some (.int .i64 back) := by rw [cell_of_row _ _ _ _ _ _ hbhW]; rfl
  have c7 : W.cell? ⟨bs, 0, none⟩ = some (.int .i64 (n : Int)) := by rw [cell_of_row _ _ _ _ _ _ hbsW]; rfl
  have w1' : IntKind.i64.wrap (ch - 1) = ch - 1 := IntWalk.i64_in _ (by omega)
  have w2' : IntKind.i64.wrap (count - 1) = count - 1 := IntWalk.i64_in _ (by omega)
  have FO := one_any lossy W.drew
  have FR := rateAt_any rate W.drew hgW
  generalize one lossy = ol at *
  generalize rix rate = rx at *
  have FO' := Aside0.mk FO
  have FR' := Aside0.mk FR
  have HY := Aside0.mk hY
  have HJ0 := Aside0.mk hJ
  have HPW := Aside0.mk hpW
  obtain ⟨W1, hW1⟩ : ∃ W1, W1 = (W.alloc (.cells #[.int .i64 4013, .int .i64 12, .int .i64 num, .int .i64 6, .int .i64 ol, .int .i64 1, .int .i64 (ch - 1), .int .i64 1, .int .i64 rx, .int .i64 4, .int .i64 kind, .int .i64 3, .int .i64 (count - 1), .int .i64 7, .int .i64 (n : Int), .int .i64 11, .int .i64 back, .int .i64 9, .int .i64 0, .int .i64 2] 61)).drew := ⟨_, rfl⟩
  have HJ1 : Aside0 (J [] W1) := ⟨by
    rw [hW1]
    exact hJ _ _ _ none (hJ _ _ _ none h0 (World.grownBy_alloc W _ none) (fun r e => by cases e)) (grown_drew _) (fun r e => by cases e)⟩
  have HF1 : Aside0 (Flds W1 W.heap.size fs) := ⟨by
    unfold Flds
    rw [hW1, HFS.out]
    exact World.alloc_heap_new W _⟩
  have HW1 := Aside0.mk hW1
  have HPB : Aside0 (W.heap.size ≠ p) := ⟨by omega⟩
  clear hbhW hbsW hgW hok h1 h2 FO FR hY hpW hW1
  refine callsIn_of_wp Tryd.func44 rfl trivial ?_ rfl
  simp only [Tryd.ntmps44, List.size_toArray, List.length_cons, List.length_nil, Nat.reduceAdd, Nat.reduceSub, Array.replicate_succ, Array.replicate_zero, List.push_toArray, List.append_toArray, List.nil_append, List.cons_append]
  gi_wp2
  refine wpIn_wide.2 ?_
  go_region_held3 (fun w' => w'.cell? ⟨bh, 0, none⟩ = some (.int .i64 num) ∧ w'.cell? ⟨bh, 1, none⟩ = some (.bool lossy) ∧ w'.cell? ⟨bh, 2, none⟩ = some (.int .i64 rate) ∧ w'.cell? ⟨bh, 3, none⟩ = some (.int .i64 ch) ∧ w'.cell? ⟨bh, 4, none⟩ = some (.int .i64 kind) ∧ w'.cell? ⟨bh, 5, none⟩ = some (.int .i64 count) ∧ w'.cell? ⟨bh, 6, none⟩ = some (.int .i64 back) ∧ w'.cell? ⟨bs, 0, none⟩ = some (.int .i64 (n : Int)))
    (first | (refine ⟨?_, ?_, ?_, ?_, ?_, ?_, ?_, ?_⟩ <;> assumption) | go_keep)
    (first
      | (go_at_call 45; refine FO'.out.mono ?_; rintro e w' ⟨rfl, hw⟩; obtain rfl := hw.symm)
      | (go_at_call 35; refine FR'.out.mono ?_; rintro e w' ⟨rfl, hw⟩; obtain rfl := hw.symm))
  all_goals
    clear w1' w2' c0 c1 c2 c3 c4 c5 c6 c7 FO' FR'
    rw [← HW1.out]
    (try simp only [Exit.then])
    gi_wp2
    gi_loopw [37] (fun u wr => ∃ k : Nat, u = .int .i64 (k : Int) ∧ k ≤ 10 ∧ Aside0 (J (fs.take k) wr) ∧ Aside0 (Flds wr W.heap.size fs)) (fun u _ => 10 - (intOf u).toNat)
    case atStart => exact ⟨0, rfl, Nat.zero_le _, ⟨by rw [List.take_zero]; exact HJ1.out⟩, HF1⟩
    case round =>
      obtain ⟨k, rfl, hk, HJ, HF⟩ := hrel
      by_cases hlt : k < 10
      · have hc := fldCells_get fs k (by omega)
        have hFr := HF.out
        unfold Flds at hFr
        have hc1 : wr.cell? ⟨W.heap.size, k * 2, none⟩ = some (.int .i64 fs[k].1) := by rw [cell_of_row _ _ _ _ _ _ hFr, Nat.mul_comm]; exact hc.1
        have hc2 : wr.cell? ⟨W.heap.size, k * 2 + 1, none⟩ = some (.int .i64 (fs[k].2 : Int)) := by rw [cell_of_row _ _ _ _ _ _ hFr, Nat.mul_comm]; exact hc.2
        have hnt : fs.take (k + 1) = fs.take k ++ [fs[k]] := List.take_succ_eq_append_getElem (by omega)
        have hJa := HJ0.out _ _ _ none HJ.out (World.grownBy_alloc wr (.cells #[.int .i64 fs[k].1, .int .i64 (fs[k].2 : Int)] 61 (0, 0)) none) (fun r e => by cases e)
        obtain ⟨fn, tmps, assign, body, hy, hR⟩ := HY.out _ fs[k] _ hJa (by rw [List.length_take]; omega)
        have HRR := Aside0.mk hR
        have HNT := Aside0.mk hnt
        generalize fs[k] = x at *
        obtain ⟨xv, xn⟩ := x
        dsimp only at *
        clear hc hFr hnt hJa hR
        gi_wp2
        refine ⟨fun h => by simp [Fence.wide] at h, ?_⟩
        refine HRR.out.mono ?_
        rintro e W' (⟨rfl, hJ', hk'⟩ | ⟨rfl, hJx'⟩)
        · have HJ' := Aside0.mk hJ'
          have HK' := Aside0.mk hk'
          clear hJ' hk'
          gi_wp2
          go_roundw
          case rel => exact ⟨k + 1, by go_num, by omega, ⟨by rw [HNT.out]; exact HJ'.out⟩, ⟨HK'.out.2 _ _ _ _ HPB.out (by decide) (blk_alloc' HF.out _)⟩⟩
          case measure => simp [intOf]; omega
        · gi_wp2
          refine bodyPost_ret (results_none rfl _ _ _) rfl ?_
          exact ⟨⟨_, rfl⟩, .inr ⟨_, trivial, hJx'⟩⟩
      · have hk1 : k = 10 := by omega
        have HE : Aside0 (fs.take k = fs) := ⟨by rw [List.take_of_length_le]; omega⟩
        clear hk1
        gi_wp2
        go_end0
        exact ⟨⟨_, rfl⟩, .inl (by have := HJ.out; rw [HE.out] at this; first | exact this | exact ⟨_, rfl, this⟩)⟩
end Go.Proofs.YtnaklnehichhpaaDoor.P
