/- The contracts of tag.stuffed, slices.Collect of it, and tag.Stuff. Printed by the kit's print.py over stubs; the sections are put in order by pp2.py. -/
import Derived.Laws.EntriesVeiled
import Derived.Test.YthlmnnjbpikijaaDoorZTr14
import Derived.Test.YthlmnnjbpikijaaDoorZTr10
import Derived.Test.YthlmnnjbpikijaaDoorZTr12
section
namespace Go.Proofs.YthlmnnjbpikijaaDoor.P
section
open Go.RowKit Go.Shelf Go.Proofs.YthlmnnjbpikijaaDoor.Bits Go.Proofs.YthlmnnjbpikijaaDoorW.PrintWords Go.Proofs.YthlmnnjbpikijaaDoorW.PrintLast Go.Proofs.YthlmnnjbpikijaaDoorW.PrintMore
set_option linter.unusedVariables false
set_option linter.unusedSimpArgs false
theorem binfo8 : (Tryd.prog.info? 5).map (fun i => (i.zero, i.size, i.bytes)) = some (some (.int .u8 0), 1, 1) := by kernel_rfl
def flat8 (l : List Int) : List Value := l.map fun x => .int .u8 x
/-- A row of one's own, in memory made from base on, as values. -/
abbrev RowV (w : World) (base : Nat) (e : TypeId) (sz : Nat) (v : Value) (n : Nat) (fl : List Value) : Prop := w.ownsRow base e sz v n fl
theorem RowV.fr {w w' : World} {base : Nat} {e : TypeId} {sz : Nat} {v : Value} {n : Nat} {fl : List Value} {T : Nat → Prop} (h : RowV w base e sz v n fl) (hf : Fr T w w') (hT : ∀ k cs, T k → k < w.heap.size → w.heap[k]? ≠ some (.cells cs e (0, 0))) : RowV w' base e sz v n fl := by
  refine ⟨h.1, ?_⟩
  rcases h.2 with hn | ⟨g, cap, cur, rfl, hb, hg, rest⟩
  · exact .inl hn
  · exact .inr ⟨g, cap, cur, rfl, hb, blk_fr hg hf (fun ht => hT g cur ht (lt_of_block hg) hg), rest⟩
theorem RowV.below {w w' : World} {base : Nat} {e : TypeId} {sz : Nat} {v : Value} {n : Nat} {fl : List Value} (h : RowV w base e sz v n fl) (hb : Below w.heap.size w w') : RowV w' base e sz v n fl :=
  h.fr (Fr.below hb (fun _ => False)) (fun _ _ hk => hk.elim)
theorem RowV.block {w : World} {base : Nat} {e : TypeId} {sz : Nat} {v : Value} {n : Nat} {fl : List Value} (h : RowV w base e sz v n fl) (j : Nat) (hj : v.ownBlock = some j) : (∃ cs, w.heap[j]? = some (.cells cs e (0, 0))) ∧ base ≤ j := by
  rcases h.2 with ⟨rfl, hn⟩ | ⟨g, cap, cur, rfl, hb, hg, rest⟩
  · simp [Value.ownBlock] at hj
  · simp [Value.ownBlock] at hj
    subst hj
    exact ⟨⟨cur, hg⟩, hb⟩
theorem RowV.slice {w : World} {base : Nat} {e : TypeId} {sz : Nat} {v : Value} {n : Nat} {fl : List Value} (h : RowV w base e sz v n fl) : ∃ A c, v = .slice A n c := by
  rcases h.2 with ⟨rfl, hn⟩ | ⟨g, cap, cur, rfl, hb, hg, rest⟩
  · have h0 : n = 0 := hn
    subst h0
    exact ⟨none, 0, rfl⟩
  · exact ⟨_, _, rfl⟩
theorem RowV.less {w : World} {b base : Nat} {e : TypeId} {sz : Nat} {v : Value} {n : Nat} {fl : List Value} (h : RowV w b e sz v n fl) (hle : base ≤ b) : RowV w base e sz v n fl := own_less h hle
theorem own_cells {β : Type} (B b : Nat) (cs : Array Value) (t : TypeId) (fr : Nat × Nat) : OwnFrom B (fun (_ : β) W => W.heap[b]? = some (.cells cs t fr)) := fun s X Y row hs hg hr =>
  (hg.block b (lt_of_block hs) (fun e => by
    obtain ⟨_, o, ho, hc⟩ := hr b e.symm
    rw [hs] at ho
    cases ho
    cases hc)).trans hs
theorem RowV.own {β : Type} (B base : Nat) (e : TypeId) (sz : Nat) (v : Value) (n : Nat) (fl : List Value) : OwnFrom B (fun (_ : β) W => RowV W base e sz v n fl) := fun s X Y row hs hg hr =>
  RowV.fr hs (T := fun k => row = some k) ((Fr.refl _ _).grown hg (fun k _ e => e)) (fun k cs hk hl he => by
    obtain ⟨_, o, ho, hc⟩ := hr k hk
    rw [he] at ho
    cases ho
    cases hc)
theorem rowB_append (W : World) (base : Nat) (v : Value) (l : List Int) (x : Int) (g : Nat) (h : RowV W base 5 1 v l.length (flat8 l)) (hg : W.heap[g]? = some (.cells #[.int .u8 x] 5 (0, 0))) (hl : l.length ≤ 1000000001) (hb : base ≤ W.heap.size) :
    ∃ v1 w1, (Builtin.append_ #[27, 27] 27 #[v, .slice (some ⟨g, 0, none⟩) 1 1]).run Tryd.prog W = .ok v1 w1 ∧ RowV w1 base 5 1 v1 (l ++ [x]).length (flat8 (l ++ [x])) ∧ W.grownBy w1 v.ownBlock := by
  obtain ⟨i0, hi, hzz⟩ := Option.map_eq_some_iff.1 binfo8
  simp only [Prod.mk.injEq] at hzz
  obtain ⟨hz0, hz1, hz2⟩ := hzz
  obtain ⟨v1, w1, hr, h2, h3, _, _⟩ := run_append_own_at (P := Tryd.prog) W base 27 27 5 i0 _ 1 1 Tryd.underlying27 hi hz0 hz1 hz2 rfl (by omega) v l.length (flat8 l) h ⟨g, 0, none⟩ 1 1 [.int .u8 x] (by simp)
    (fun j u hu => by
      rw [show (⟨g, 0, none⟩ : Addr).add j = ⟨g, j, none⟩ by simp [Addr.add_lit], cell_of_row W g j #[.int .u8 x] _ (0, 0) hg]
      simpa using hu)
    (by intro u hu; simp at hu; subst hu; rfl) (by simp only [maxLen]; omega) (by omega) hb
  refine ⟨v1, w1, hr, ?_, h3⟩
  have e : flat8 (l ++ [x]) = flat8 l ++ [.int .u8 x] := by simp [flat8]
  rw [e, List.length_append]
  exact h2
theorem wpListIn_run_append {F : Fence} {n : Nat} {P : Program} {ops : Array Oper} {rest : List Oper} {o : Oper} {a : Act} {Q : Exit → Act → World → Prop} {W w1 : World} {v1 : Value} (hgd : o.guard = none) (s x : Operand) (t : TypeId)
    (ho : o.op = .call { callee := .builtin .append, args := #[s, x], argTypes := #[t, t] }) (v y : Value) (hs : a.eval s = v) (hx : a.eval x = y) (hrun : (Builtin.append_ #[t, t] o.type #[v, y]).run P W = .ok v1 w1) (h : wpListIn F n P ops Q rest (a.put o.dst v1) w1) :
    wpListIn F n P ops Q (o :: rest) a W := by
  refine wpListIn_plain hgd fun K hK' => ?_
  unfold Oper.wpIn
  refine ⟨?_, ?_⟩
  · simp [Oper.about, ho, resolve, Target.leads, Sem.run_pure]
  · rw [Oper.semAt_plain F _ _ (by rw [ho]; intro c hc'; cases hc')]
    simp [execOp, ho, resolve, invoke, builtin, hs, hx, hrun, Result.andThen]
    exact hK' _ _ h
abbrev box8 (v : Value) : Obj := .cells #[v] 27 (0, 0)
abbrev seqS (bx : Nat) : Value := .func (.func 69) #[] #[.pointer (some ⟨bx, 0, none⟩)]
section
attribute [local go_sem ↓] Go.wp_at_zero Go.wp_at_succ
theorem stuffed_any (A : Option Addr) (n c : Nat) (w : World) : Calls Tryd.prog 46 #[.slice A n c] w fun e w' => e = .returned (seqS w.heap.size) ∧ w' = w.alloc (box8 (.slice A n c)) := by
  go_enter Tryd.func46, Tryd.ntmps46
  go_wp2
  go_ret
  simp
end
attribute [local go_sem] Oper.semAt_some
set_option maxHeartbeats 4000000 in
set_option maxRecDepth 100000 in
theorem stuffed_stops (m bx : Nat) (A : Option Addr) (c : Nat) (B : List Int) (w : World) (hbx : w.heap[bx]? = some (box8 (.slice A B.length c))) (hC : Kd.C (Kd.int .u8) w A B.length B) (h8 : is8 B) (hBl : B.length ≤ 1000000000) :
    SeqStopsK Fence.wide m Tryd.prog 69 #[.pointer (some ⟨bx, 0, none⟩)] (fun x : Int => #[Value.int .u8 x]) (Fr fun k => w.heap.size ≤ k) (fun xs => xs = stf B) (fun _ => True) (stf B).length w := by
  intro l J Jx W hW hJ hJx hY h0
  have HC := Aside0.mk hC
  have H8 := Aside0.mk h8
  have HY := Aside0.mk hY
  have HJ0 := Aside0.mk hJ
  have HBX := Aside0.mk hbx
  have HBW := Aside0.mk hW
  have hbxW := (hW.block bx (lt_of_block hbx)).trans hbx
  have cW := cell_of_one hbxW
  clear hbx hW hC h8 hY hbxW
  refine callsIn_of_wp Tryd.func69 rfl trivial ?_ rfl
  simp only [Tryd.ntmps69, List.size_toArray, List.length_cons, List.length_nil, Nat.reduceAdd, Nat.reduceSub, Array.replicate_succ, Array.replicate_zero, List.push_toArray, List.append_toArray, List.nil_append, List.cons_append]
  gi_wp2
  gi_loopw [7] (fun u wr => ∃ k : Nat, ∃ pre : List Int, u = .int .i64 (k : Int) ∧ k ≤ B.length ∧ Aside0 (pre ++ stf (B.drop k) = stf B) ∧ Aside0 (J pre wr) ∧ Aside0 (Below w.heap.size w wr)) (fun u _ => B.length + 1 - (intOf u).toNat)
  case atStart => exact ⟨0, [], rfl, Nat.zero_le _, ⟨rfl⟩, ⟨h0⟩, HBW⟩
  case round =>
    obtain ⟨k, pre, rfl, hk, HA, HJ, HB⟩ := hrel
    clear cW
    by_cases hlt : k < B.length
    · obtain ⟨ad, rfl, hc⟩ := at8 (Kd.C_below HC.out HB.out) k hlt
      have hsd := stf_drop B k hlt
      have hl1 : pre.length < (stf B).length := by
        rw [← HA.out, List.length_append, hsd]
        unfold stfAt
        split <;> simp <;> omega
      have hys : (B.getD k 0 ≠ 255) ∨ (B.getD k 0 = 255 ∧ ¬ k + 1 < B.length ∧ B.getD (k + 1) 0 = 0) ∨ (B.getD k 0 = 255 ∧ k + 1 < B.length ∧ B.getD (k + 1) 0 = 0) ∨ (B.getD k 0 = 255 ∧ k + 1 < B.length ∧ 224 ≤ B.getD (k + 1) 0) ∨ (B.getD k 0 = 255 ∧ k + 1 < B.length ∧ B.getD (k + 1) 0 ≠ 0 ∧ B.getD (k + 1) 0 < 224) := by
        by_cases h0 : k + 1 < B.length
        · omega
        · have : B.getD (k + 1) 0 = 0 := by rw [List.getD_eq_getElem?_getD, List.getElem?_eq_none (by omega)]; rfl
          omega
      have hs1 : B.getD k 0 ≠ 255 ∨ (B.getD (k + 1) 0 ≠ 0 ∧ B.getD (k + 1) 0 < 224) → Aside0 ((pre ++ [B.getD k 0]) ++ stf (B.drop (k + 1)) = stf B) := fun h => ⟨by
        rw [← HA.out, hsd]
        unfold stfAt
        rw [if_neg (by omega)]
        simp⟩
      have hs2 : B.getD k 0 = 255 ∧ (B.getD (k + 1) 0 = 0 ∨ 224 ≤ B.getD (k + 1) 0) → Aside0 ((pre ++ [B.getD k 0] ++ [0]) ++ stf (B.drop (k + 1)) = stf B) ∧ (pre ++ [B.getD k 0]).length < (stf B).length := fun h => by
        have e : (pre ++ [B.getD k 0] ++ [0]) ++ stf (B.drop (k + 1)) = stf B := by
          rw [← HA.out, hsd]
          unfold stfAt
          rw [if_pos h]
          simp
        refine ⟨⟨e⟩, ?_⟩
        rw [← e]
        simp only [List.length_append, List.length_cons, List.length_nil]
        omega
      have hc2 : ∀ W', Below w.heap.size w W' → k + 1 < B.length → W'.cell? (ad.add (k + 1)) = some (.int .u8 (B.getD (k + 1) 0)) := fun W' hb h => by
        obtain ⟨ad2, e, hc2⟩ := at8 (Kd.C_below HC.out hb) (k + 1) h
        cases e
        exact hc2
      obtain ⟨x, hx⟩ : ∃ x, B.getD k 0 = x := ⟨_, rfl⟩
      obtain ⟨y, hy⟩ : ∃ y, B.getD (k + 1) 0 = y := ⟨_, rfl⟩
      rw [hx, hy] at hys hs1 hs2
      rw [hx] at hc
      rw [hy] at hc2
      obtain ⟨fn, tmps, assign, body, hyl, hR⟩ := HY.out _ x _ HJ.out hl1
      have HRR := Aside0.mk hR
      have HS1 := Aside0.mk hs1
      have HS2 := Aside0.mk hs2
      have HC2 := Aside0.mk hc2
      have HYS := Aside0.mk hys
      clear hsd hl1 hys hs1 hs2 hc2 hx hy hR
      gi_wp2
      refine ⟨fun h => by simp [Fence.wide] at h, ?_⟩
      refine HRR.out.mono ?_
      rintro e W' (⟨rfl, hJ', hk'⟩ | ⟨rfl, hJx'⟩)
      · have hB' := HB.out.trans (hk'.to_below HB.out.size (fun j hj => hj))
        have hX' := (hB'.block bx (lt_of_block HBX.out)).trans HBX.out
        have cx := cell_of_one hX'
        have hc2 := HC2.out W' hB'
        have HJ' := Aside0.mk hJ'
        have HB' := Aside0.mk hB'
        clear hJ' hB' hk' hX' hc
        rcases HYS.out with h | ⟨rfl, h1, rfl⟩ | ⟨rfl, h1, rfl⟩ | ⟨rfl, h1, h2⟩ | ⟨rfl, h1, h2, h3⟩
        · have HE := HS1.out (.inl h)
          have q1 : (x != 255) = true := bne_iff_ne.2 h
          clear h hc2
          gi_wp2
          go_roundw
          case rel => exact ⟨k + 1, pre ++ [x], by go_num, by omega, HE, HJ', HB'⟩
          case measure => simp [intOf]; omega
        · have hd : decide ((k : Int) + 1 < (B.length : Int)) = false := by simp; omega
          obtain ⟨HE, hl2⟩ := HS2.out ⟨rfl, .inl rfl⟩
          obtain ⟨fn2, tmps2, assign2, body2, hyl2, hR2⟩ := HY.out _ 0 _ HJ'.out hl2
          have HRR2 := Aside0.mk hR2
          clear hl2 hR2
          gi_wp2
          refine ⟨fun h => by simp [Fence.wide] at h, ?_⟩
          refine HRR2.out.mono ?_
          rintro e W2 (⟨rfl, hJ2, hk2⟩ | ⟨rfl, hJx2⟩)
          · have HJ2 := Aside0.mk hJ2
            have HB2 := Aside0.mk (HB'.out.trans (hk2.to_below HB'.out.size (fun j hj => hj)))
            clear hJ2 hk2
            gi_wp2
            go_roundw
            case rel => exact ⟨k + 1, pre ++ [255] ++ [0], by go_num, by omega, HE, HJ2, HB2⟩
            case measure => simp [intOf]; omega
          · gi_wp2
            refine bodyPost_ret (results_none rfl _ _ _) rfl ?_
            exact ⟨⟨_, rfl⟩, .inr ⟨_, trivial, hJx2⟩⟩
        · have hd : decide ((k : Int) + 1 < (B.length : Int)) = true := by simp; omega
          have hc3 : W'.cell? ⟨ad.block, ad.off + (k + 1), none⟩ = some (.int .u8 _) := hc2 h1
          clear hc2
          obtain ⟨HE, hl2⟩ := HS2.out ⟨rfl, .inl rfl⟩
          obtain ⟨fn2, tmps2, assign2, body2, hyl2, hR2⟩ := HY.out _ 0 _ HJ'.out hl2
          have HRR2 := Aside0.mk hR2
          clear hl2 hR2
          gi_wp2
          refine ⟨fun h => by simp [Fence.wide] at h, ?_⟩
          refine HRR2.out.mono ?_
          rintro e W2 (⟨rfl, hJ2, hk2⟩ | ⟨rfl, hJx2⟩)
          · have HJ2 := Aside0.mk hJ2
            have HB2 := Aside0.mk (HB'.out.trans (hk2.to_below HB'.out.size (fun j hj => hj)))
            clear hJ2 hk2
            gi_wp2
            go_roundw
            case rel => exact ⟨k + 1, pre ++ [255] ++ [0], by go_num, by omega, HE, HJ2, HB2⟩
            case measure => simp [intOf]; omega
          · gi_wp2
            refine bodyPost_ret (results_none rfl _ _ _) rfl ?_
            exact ⟨⟨_, rfl⟩, .inr ⟨_, trivial, hJx2⟩⟩
        · have hd : decide ((k : Int) + 1 < (B.length : Int)) = true := by simp; omega
          have hc3 : W'.cell? ⟨ad.block, ad.off + (k + 1), none⟩ = some (.int .u8 _) := hc2 h1
          have q1 : (y != 0) = true := bne_iff_ne.2 (by omega)
          have q2 : decide (y < 224) = false := decide_eq_false (by omega)
          clear hc2
          obtain ⟨HE, hl2⟩ := HS2.out ⟨rfl, .inr h2⟩
          obtain ⟨fn2, tmps2, assign2, body2, hyl2, hR2⟩ := HY.out _ 0 _ HJ'.out hl2
          have HRR2 := Aside0.mk hR2
          clear hl2 hR2
          gi_wp2
          refine ⟨fun h => by simp [Fence.wide] at h, ?_⟩
          refine HRR2.out.mono ?_
          rintro e W2 (⟨rfl, hJ2, hk2⟩ | ⟨rfl, hJx2⟩)
          · have HJ2 := Aside0.mk hJ2
            have HB2 := Aside0.mk (HB'.out.trans (hk2.to_below HB'.out.size (fun j hj => hj)))
            clear hJ2 hk2
            gi_wp2
            go_roundw
            case rel => exact ⟨k + 1, pre ++ [255] ++ [0], by go_num, by omega, HE, HJ2, HB2⟩
            case measure => simp [intOf]; omega
          · gi_wp2
            refine bodyPost_ret (results_none rfl _ _ _) rfl ?_
            exact ⟨⟨_, rfl⟩, .inr ⟨_, trivial, hJx2⟩⟩
        · have hd : decide ((k : Int) + 1 < (B.length : Int)) = true := by simp; omega
          have hc3 : W'.cell? ⟨ad.block, ad.off + (k + 1), none⟩ = some (.int .u8 _) := hc2 h1
          have HE := HS1.out (.inr ⟨h2, h3⟩)
          have q1 : (y != 0) = true := bne_iff_ne.2 h2
          have q2 : decide (y < 224) = true := decide_eq_true h3
          clear hc2 h2 h3
          gi_wp2
          go_roundw
          case rel => exact ⟨k + 1, pre ++ [255], by go_num, by omega, HE, HJ', HB'⟩
          case measure => simp [intOf]; omega
      · gi_wp2
        refine bodyPost_ret (results_none rfl _ _ _) rfl ?_
        exact ⟨⟨_, rfl⟩, .inr ⟨_, trivial, hJx'⟩⟩
    · have hk1 : k = B.length := by omega
      have HE : Aside0 (pre = stf B) := ⟨by have := HA.out; rw [hk1, List.drop_length] at this; simpa [stf] using this⟩
      clear hk1
      gi_wp2
      go_end0
      exact ⟨⟨_, rfl⟩, .inl ⟨pre, HE.out, HJ.out⟩⟩
set_option maxHeartbeats 4000000 in
set_option maxRecDepth 100000 in
theorem AppendSeq_any (bx : Nat) (A : Option Addr) (c : Nat) (B : List Int) (w : World) (hbx : w.heap[bx]? = some (box8 (.slice A B.length c))) (hC : Kd.C (Kd.int .u8) w A B.length B) (h8 : is8 B) (hBl : B.length ≤ 500000000) :
    Calls Tryd.prog 68 #[.slice none 0 0, seqS bx] w fun e w' => ∃ v, e = .returned v ∧ RowV w' w.heap.size 5 1 v (stf B).length (flat8 (stf B)) ∧ Below w.heap.size w w' := by
  obtain ⟨b2, hb2⟩ : ∃ b2, b2 = w.heap.size := ⟨_, rfl⟩
  obtain ⟨w4, hw4⟩ : ∃ w4, w4 = w.alloc (box8 (.slice none 0 0)) := ⟨_, rfl⟩
  have hsz4 : w4.heap.size = w.heap.size + 1 := by rw [hw4]; simp
  have hB4 : Below w.heap.size w w4 := by rw [hw4]; exact below_alloc (Below.refl _ _) _
  have HK2 : Aside0 (w4.heap[b2]? = some (box8 (.slice none 0 0))) := ⟨by rw [hw4, hb2]; exact World.alloc_heap_new w _⟩
  have hst := stuffed_stops 4 bx A c B w hbx hC h8 (by omega)
  have hln := (stf_len B).2
  have HST := Aside0.mk hst
  have HB4 := Aside0.mk hB4
  have HN2 : Aside0 (b2 = w.heap.size ∧ b2 < w4.heap.size ∧ w4.heap.size = w.heap.size + 1 ∧ (stf B).length ≤ 1000000000) := ⟨by omega⟩
  have HW4 := Aside0.mk hw4
  have HB2 := Aside0.mk hb2
  clear hst hB4 hw4 hsz4 hC h8 hb2 hln hbx
  refine (callsIn_wide (n := 5)).1 ?_
  refine callsIn_of_wp_marks Tryd.func68 rfl trivial ?_ rfl
  simp only [Tryd.ntmps68, List.size_toArray, List.length_cons, List.length_nil, Nat.reduceAdd, Nat.reduceSub, Array.replicate_succ, Array.replicate_zero, List.push_toArray, List.append_toArray, List.nil_append, List.cons_append]
  refine wpIn_wide.2 ?_
  go_wp2_with fail
  rw [← HW4.out, ← HB2.out]
  refine (wpIn_wide (n := 5)).1 ?_
  refine wpIn_rangeFunc_ownG rfl (by omega) (gf := 69) (lb := #[.pointer (some ⟨bx, 0, none⟩)]) rfl trivial (enters_of Tryd.func69 (by kernel_rfl) rfl)
    HST.out (fun h k => h.trans k) ?hKb HB4.out (fun _ => rfl)
    (fun pre W => (Below w.heap.size w W ∧ w4.heap.size ≤ W.heap.size) ∧ ∃ v, W.heap[b2]? = some (box8 v) ∧ RowV W w4.heap.size 5 1 v pre.length (flat8 pre))
    (fun _ _ _ => False) ?hI (fun _ _ _ _ _ hs _ _ => hs) ⟨⟨HB4.out, Nat.le_refl _⟩, .slice none 0 0, HK2.out, World.ownsRow_nil w4 w4.heap.size _ _⟩
    (fun x => { tmps := #[.slice none 0 0, seqS bx, .pointer (some ⟨b2, 0, none⟩), undef, .slice none 0 0, .int .u8 x, seqS bx, .int .u8 x, undef, undef, undef, undef, undef], defers := [] })
    ?assign ?body ?done ?stop
  case hKb =>
    intro W l o o' hl ho hc _
    exact (Fr.refl _ _).grown (grownBy_putObj' W l o') (fun k _ e => by cases e; have := HN2.out; omega)
  case hI =>
    rintro s X Y row ⟨⟨hb, hs4⟩, v, h3, hr⟩ hg hrow
    refine ⟨⟨hb.grown hg hb.size (fun k e => by have := (hrow k e).1; have := HB4.out.size; omega), Nat.le_trans hs4 hg.size⟩, v, own_cells (β := Unit) w4.heap.size b2 _ _ _ () X Y row h3 hg hrow, RowV.own (β := Unit) w4.heap.size _ _ _ _ _ _ () X Y row hr hg hrow⟩
  case assign =>
    intro l x W K hK
    gi_wp2
    exact hK
  case body =>
    rintro l pre x W ⟨⟨hb, hs4⟩, v, h3, hr⟩ hlen
    have c3 := cell_of_one h3
    have hr1 := hr.below (below_alloc (Below.refl _ _) (.cells #[.int .u8 x] 5 (0, 0)))
    obtain ⟨v1, w2, hrun, hr2, hg2⟩ := rowB_append (W.alloc (.cells #[.int .u8 x] 5 (0, 0))) w4.heap.size v pre x W.heap.size hr1 (World.alloc_heap_new W _) (by have := HN2.out; omega) (by simp; omega)
    generalize hnl : (pre ++ [x]).length = n1 at hr2
    obtain ⟨A1, c1, rfl⟩ := hr2.slice
    have h31 := blk_alloc' h3 (.cells #[.int .u8 x] 5 (0, 0))
    have h32 : w2.heap[b2]? = some (box8 v) := (hg2.block _ (lt_of_block h31) (fun e => by have := (hr.block b2 e.symm).2; have := HN2.out; omega)).trans h31
    have c32 := cell_of_one h32
    have f32 : w2.frozen? ⟨b2, 0, none⟩ = false := blk_frozen h32 0
    have hfr : Fr (fun k => k = b2 ∨ v.ownBlock = some k) W (w2.setCell ⟨b2, 0, none⟩ (.slice A1 n1 c1)) := Fr.setCell ((Fr.below (below_alloc (Below.refl _ _) _) _).grown hg2 (fun k _ e => .inr e)) (p := ⟨b2, 0, none⟩) (fun _ => .inl rfl) _
    have HFR := Aside0.mk hfr
    have HR := Aside0.mk hr
    have HR2 := Aside0.mk hr2
    have H3 := Aside0.mk h3
    have H32 := Aside0.mk h32
    have HB := Aside0.mk hb
    have HS4 := Aside0.mk hs4
    have HRUN := Aside0.mk hrun
    clear hr1 hr hrun hr2 hg2 h31 h32 h3 hfr hb
    gi_wp2_with (gi_at_builtin; refine wpListIn_run_append rfl _ _ _ rfl _ _ rfl rfl HRUN.out ?_)
    refine ⟨HFR.out.keepsFrom (fun k hk o ho => ?_), HFR.out.mono (fun k _ hk => ?_), ⟨HB.out.trans (HFR.out.to_below HB.out.size (fun k hk => ?_)), Nat.le_trans HS4.out HFR.out.size⟩, .slice A1 n1 c1, ?_, ?_⟩
    · rcases hk with rfl | q
      · rw [H3.out] at ho; cases ho; rfl
      · obtain ⟨⟨cs, hc⟩, _⟩ := HR.out.block k q
        rw [hc] at ho; cases ho; rfl
    · have := HN2.out
      rcases hk with rfl | q
      · omega
      · have := (HR.out.block k q).2
        omega
    · have := HN2.out
      rcases hk with rfl | q
      · omega
      · have := (HR.out.block k q).2
        omega
    · rw [heap_setCell_same _ _ _ _ _ _ H32.out]; rfl
    · rw [hnl]
      refine RowV.fr HR2.out (T := fun k => k = b2) (Fr.setCell (S := fun k => k = b2) (Fr.refl _ _) (p := ⟨b2, 0, none⟩) (fun _ => rfl) _) (fun k cs hk _ he => ?_)
      subst hk
      rw [H32.out] at he
      cases he
  case done =>
    rintro D ys W hD rfl ⟨⟨hb, hs4⟩, v, h3, hr⟩ hK
    have c3 := cell_of_one h3
    have HR := Aside0.mk hr
    have HB := Aside0.mk hb
    have HK := Aside0.mk hK
    clear h3 hr hb hK
    (try simp only [Exit.inBlock, Exit.then])
    go_wp2_with fail
    refine ⟨by simp, .inl ⟨_, _, rfl, run_takeDeferred HK.out, ?_⟩⟩
    have hfD : Fr (fun k => k = D) W (W.putObj D (.deferred none)) := (Fr.refl _ _).grown (grownBy_putObj' W D (.deferred none)) (fun k _ e => by cases e; rfl)
    refine ⟨_, results_tmp rfl _ _ _, _, rfl, ?_, HB.out.trans (hfD.to_below HB.out.size (fun k hk => by subst hk; have := HN2.out; omega))⟩
    have hrow : RowV W w.heap.size 5 1 v (stf B).length (flat8 (stf B)) := HR.out.less HB4.out.size
    refine hrow.fr hfD (fun k cs hk _ he => ?_)
    subst hk
    rw [HK.out] at he
    cases he
  case stop =>
    rintro D c pre W _ _ h _
    exact h.elim
end
section
open Go.RowKit Go.Shelf Go.Proofs.YthlmnnjbpikijaaDoor.Bits Go.Proofs.YthlmnnjbpikijaaDoorW.PrintWords Go.Proofs.YthlmnnjbpikijaaDoorW.PrintLast Go.Proofs.YthlmnnjbpikijaaDoorW.PrintMore
set_option linter.unusedVariables false
set_option linter.unusedSimpArgs false
attribute [local go_sem ↓] Go.wp_at_zero Go.wp_at_succ
theorem Collect_any (bx : Nat) (A : Option Addr) (c : Nat) (B : List Int) (w : World) (hbx : w.heap[bx]? = some (box8 (.slice A B.length c))) (hC : Kd.C (Kd.int .u8) w A B.length B) (h8 : is8 B) (hBl : B.length ≤ 500000000) :
    Calls Tryd.prog 45 #[seqS bx] w fun e w' => ∃ v, e = .returned v ∧ RowV w' w.heap.size 5 1 v (stf B).length (flat8 (stf B)) ∧ Below w.heap.size w w' := by
  have H := Aside0.mk (AppendSeq_any bx A c B w hbx hC h8 hBl)
  clear hbx hC h8 hBl
  go_enter Tryd.func45, Tryd.ntmps45
  go_wp2_with fail
  refine H.out.mono ?_
  rintro e w1 ⟨v, rfl, hr, hb⟩
  have HR := Aside0.mk hr
  have HB := Aside0.mk hb
  clear hr hb H
  go_wp2_with fail
  go_ret
  exact ⟨_, rfl, HR.out, HB.out⟩
/-- tag.Stuff in the printed form. -/
def tag_Stuff.f (l0 : List Int) : Option (List Int) := if l0.length ≤ 500000000 then (if l0.all (fun x => decide (0 ≤ x) && decide (x < 256)) = true then some (stf l0) else none) else none
theorem Stuff_row (A : Option Addr) (c : Nat) (B : List Int) (w : World) (hC : Kd.C (Kd.int .u8) w A B.length B) (h8 : is8 B) (hBl : B.length ≤ 500000000) :
    Calls Tryd.prog 21 #[.slice A B.length c] w fun e w' => ∃ v, e = .returned v ∧ RowV w' w.heap.size 5 1 v (stf B).length (flat8 (stf B)) ∧ Below w.heap.size w w' := by
  obtain ⟨w1, hw1⟩ : ∃ w1, w1 = w.alloc (box8 (.slice A B.length c)) := ⟨_, rfl⟩
  have hb1 : Below w.heap.size w w1 := by rw [hw1]; exact below_alloc (Below.refl _ _) _
  have H := Aside0.mk (Collect_any w.heap.size A c B w1 (by rw [hw1]; exact World.alloc_heap_new w _) (Kd.C_below hC hb1) h8 hBl)
  have HB1 := Aside0.mk hb1
  have HW1 := Aside0.mk hw1
  clear hC h8 hBl hw1 hb1
  go_enter Tryd.func21, Tryd.ntmps21
  go_wp2_with fail
  refine (stuffed_any A B.length c w).mono ?_
  rintro e w2 ⟨rfl, hw2⟩
  rw [← HW1.out] at hw2
  obtain rfl := hw2.symm
  go_wp2_with fail
  refine H.out.mono ?_
  rintro e w3 ⟨v, rfl, hr, hb⟩
  have HR := Aside0.mk hr
  have HB := Aside0.mk hb
  clear hr hb H
  go_wp2_with fail
  go_ret
  exact ⟨_, rfl, HR.out.less HB1.out.size, HB1.out.trans (HB.out.mono HB1.out.size)⟩
theorem tag_Stuff.calls (A0 : Option Addr) (c0 : Nat) (l0 : List Int) (r : List Int) (w : World) (hr0 : Kd.C (Kd.int .u8) w A0 l0.length l0) (hc0 : l0.length ≤ c0) (h : tag_Stuff.f l0 = some r) :
    Calls Tryd.prog 21 #[.slice A0 l0.length c0] w fun e w' => ∃ v0_ : Value, e = .returned (v0_) ∧ Kd.R (Kd.int .u8) 5 w' w.heap.size (fun _ => True) v0_ r ∧ Below w.heap.size w w' := by
  unfold tag_Stuff.f at h
  split at h
  case isFalse => cases h
  case isTrue hl =>
    split at h
    case isFalse => cases h
    case isTrue h8 =>
      obtain rfl := Option.some.inj h
      refine (Stuff_row A0 c0 l0 w hr0 (fun x hx => by have := List.all_eq_true.1 h8 x hx; simpa using this) hl).mono ?_
      rintro e w' ⟨v, rfl, hr, hb⟩
      exact ⟨v, rfl, Kd.R_of_own (enc := fun x => Value.int .u8 x) hr (fun _ _ => trivial), hb⟩
end
end Go.Proofs.YthlmnnjbpikijaaDoor.P
end
section
namespace Go.Proofs.YthlmnnjbpikijaaDoor.P
open Go.RowKit Go.Proofs.YthlmnnjbpikijaaDoorW.PrintWords Go.Proofs.YthlmnnjbpikijaaDoorW.PrintLast Go.Proofs.YthlmnnjbpikijaaDoorW.PrintMore
attribute [local go_sem] max2_int min2_int max_two min_two max_three min_three max_four min_four   -- for this text's walks alone
set_option linter.unusedVariables false
set_option linter.unusedSimpArgs false
/-! ### tag_Strip: function 22 -/
def tag_Strip.l0 : Nat → List Int → List Int → List Int → Int → Int → Option (List Int × Int)
  | 0, _, _, _, _, _ => none
  | k + 1, x0, x4, x7, x8, x9 => if x9 < x8 then (if 0 ≤ x9 then (if x9 < (x7.length : Int) then (if (rd x7 x9) = 0 then (if x9 > 0 then (if 0 ≤ (wrap64 (x9 - 1)) then (if (wrap64 (x9 - 1)) < (x0.length : Int) then (if (rd x0 (wrap64 (x9 - 1))) = 255 then (tag_Strip.l0 k x0 x4 x7 x8 (wrap64 (x9 + 1))) else (if x4.length < 140737488355328 then (tag_Strip.l0 k x0 (x4 ++ [rd x7 x9]) x7 x8 (wrap64 (x9 + 1))) else (none))) else (none)) else (none)) else (if x4.length < 140737488355328 then (tag_Strip.l0 k x0 (x4 ++ [rd x7 x9]) x7 x8 (wrap64 (x9 + 1))) else (none))) else (if x4.length < 140737488355328 then (tag_Strip.l0 k x0 (x4 ++ [rd x7 x9]) x7 x8 (wrap64 (x9 + 1))) else (none))) else (none)) else (none)) else ((tag_Stuff.f x4).bind fun t134 => ((slices_Equal_byte_byte.f k t134 x0).bind fun t137 => (if t137 = true then (some (x4, 0)) else (some (([] : List Int), 4)))))
def tag_Strip.f (k : Nat) (l0 : List Int) : Option (List Int × Int) := tag_Strip.l0 k l0 ([] : List Int) l0 (l0.length : Int) 0
set_option maxHeartbeats 8000000 in
set_option maxRecDepth 100000 in
theorem tag_Strip.calls (k : Nat) (A0 : Option Addr) (c0 : Nat) (l0 : List Int) (r1 : List Int) (r2 : Int) (w : World) (hr0 : Kd.C (Kd.int .u8) w A0 l0.length l0) (hc0 : l0.length ≤ c0) (h : tag_Strip.f k l0 = some (r1, r2)) :
    Calls Tryd.prog 22 #[.slice A0 l0.length c0] w fun e w' => ∃ v0_ : Value, e = .returned (.tuple #[v0_, .int .i64 r2]) ∧ Kd.R (Kd.int .u8) 5 w' w.heap.size (fun _ => True) v0_ r1 ∧ Below w.heap.size w w' := by
  have HR0 := Aside0.mk hr0
  have HC0 := Aside0.mk hc0
  clear hr0 hc0
  have HB := Aside0.mk (Below.refl w.heap.size w)
  have H : (tag_Strip.l0 k l0 ([] : List Int) l0 (l0.length : Int) 0) = some (r1, r2) := h
  clear h
  have H' := Aside0.mk H
  clear H
  go_enter Tryd.func22, Tryd.ntmps22
  go_wp2
  go_loopg [4, 9] k (fun kq v4 v9 w' => ∃ (x4_1 : List Int) (x9_1 : Int), v9 = .int .i64 x9_1 ∧ Aside0 (tag_Strip.l0 kq l0 x4_1 l0 (l0.length : Int) x9_1 = some (r1, r2)) ∧ Aside0 (kq ≤ k) ∧ Aside0 (Kd.R (Kd.int .u8) 5 w' w.heap.size (fun _ => True) v4 x4_1) ∧ Aside0 (Below w.heap.size w w'))
  case atStart => exact ⟨(([] : List Int)), (0), (by first | rfl | (simp; done) | (simp [*]; done)), H', ⟨Nat.le_refl _⟩, ⟨by first | exact Kd.R_nil _ _ _ _ _ | exact Kd.N_nil _ _ _ _ _ | exact Kd.V_nil _ _ _ _ _ | exact Kd.Q_nil _ _ _ _ _ | exact Kd.S_nil _ _ _ _ _⟩, ⟨by repeat (first | (with_reducible first | exact HB.out | apply below_alloc | apply pw_below_drewN | apply below_drew1) | exact HB.out)⟩⟩
  case round =>
    clear H'
    obtain ⟨x4_1, x9_1, rfl, HA, HK1, HO_4, HB⟩ := hrel
    cases gk with
    | zero => exact absurd HA.out (by simp [tag_Strip.l0])
    | succ k1 =>
      have H := HA.out
      clear HA
      simp only [tag_Strip.l0] at H
      by_cases c2 : x9_1 < (l0.length : Int)
      · rw [if_pos c2] at H
        have c2b0 : decide (x9_1 < (l0.length : Int)) = true := decide_eq_true c2
        clear c2
        by_cases c3 : 0 ≤ x9_1
        · rw [if_pos c3] at H
          have c3b0 : decide (0 ≤ x9_1) = true := decide_eq_true c3
          clear c3
          by_cases c4 : x9_1 < (l0.length : Int)
          · rw [if_pos c4] at H
            have c4b0 : decide (x9_1 < (l0.length : Int)) = true := decide_eq_true c4
            clear c4
            by_cases c5 : (rd l0 x9_1) = 0
            · rw [if_pos c5] at H
              have c5b0 : ((rd l0 x9_1) == 0) = true := beq_iff_eq.mpr c5
              have c5b1 : ((rd l0 x9_1) != 0) = false := bne_eq_false_iff_eq.mpr c5
              clear c5
              by_cases c6 : x9_1 > 0
              · rw [if_pos c6] at H
                have c6b0 : decide (0 < x9_1) = true := decide_eq_true c6
                clear c6
                obtain ⟨ji7, hji7⟩ : ∃ j_ : Int, (wrap64 (x9_1 - 1)) = j_ := ⟨_, rfl⟩
                replace H : (if 0 ≤ (ji7) then (if (ji7) < (l0.length : Int) then (if (rd l0 (ji7)) = 255 then (tag_Strip.l0 k1 l0 x4_1 l0 (l0.length : Int) (wrap64 (x9_1 + 1))) else (if x4_1.length < 140737488355328 then (tag_Strip.l0 k1 l0 (x4_1 ++ [rd l0 x9_1]) l0 (l0.length : Int) (wrap64 (x9_1 + 1))) else (none))) else (none)) else (none)) = some (r1, r2) := by first | (rw [hji7] at H; exact H) | (simp only [hji7] at H ⊢; exact H)
                have hji7w : (IntKind.i64.wrap (x9_1 - 1)) = ji7 := (i64_w _).trans hji7
                by_cases c8 : 0 ≤ (ji7)
                · rw [if_pos c8] at H
                  have c8b0 : decide (0 ≤ (ji7)) = true := decide_eq_true c8
                  clear c8
                  by_cases c9 : (ji7) < (l0.length : Int)
                  · rw [if_pos c9] at H
                    have c9b0 : decide ((ji7) < (l0.length : Int)) = true := decide_eq_true c9
                    clear c9
                    by_cases c10 : (rd l0 (ji7)) = 255
                    · rw [if_pos c10] at H
                      have c10b0 : ((rd l0 (ji7)) == 255) = true := beq_iff_eq.mpr c10
                      have c10b1 : ((rd l0 (ji7)) != 255) = false := bne_eq_false_iff_eq.mpr c10
                      clear c10
                      have H' := Aside0.mk H
                      clear H
                      have p123 : 0 ≤ (x9_1 : Int) := of_decide_eq_true (by first | (with_reducible assumption) | assumption)
                      have q123 : x9_1 < (l0.length : Int) := of_decide_eq_true (by first | (with_reducible assumption) | assumption)
                      obtain ⟨ad123, e123, hx123_0⟩ := Kd.at_int HR0.out x9_1 p123 q123
                      cases e123
                      replace hx123_0 := (HB.out.cell (World.block_lt_of_cell? w _ hx123_0)).trans hx123_0
                      replace p123 := eq_true p123
                      replace q123 := eq_true q123
                      have p124 : 0 ≤ ((ji7) : Int) := of_decide_eq_true (by first | (with_reducible assumption) | assumption)
                      have q124 : (ji7) < (l0.length : Int) := of_decide_eq_true (by first | (with_reducible assumption) | assumption)
                      obtain ⟨ad124, e124, hx124_0⟩ := Kd.at_int HR0.out (ji7) p124 q124
                      obtain rfl : ad123 = ad124 := (by injection e124)
                      replace hx124_0 := (HB.out.cell (World.block_lt_of_cell? w _ hx124_0)).trans hx124_0
                      replace p124 := eq_true p124
                      replace q124 := eq_true q124
                      go_wp2
                      go_roundg k1
                      case measure => have := HK1.out; omega
                      case rel => exact ⟨(x4_1), (wrap64 (x9_1 + 1)), (by first | rfl | (simp; done) | (simp [*]; done)), H', ⟨by have := HK1.out; omega⟩, ⟨by (with_reducible repeat (first | apply Kd.R_alloc | apply Kd.R_drewN | apply Kd.R_drew)); exact HO_4.out⟩, ⟨by repeat (first | (with_reducible first | exact HB.out | apply below_alloc | apply pw_below_drewN | apply below_drew1) | exact HB.out)⟩⟩
                    · rw [if_neg c10] at H
                      have c10b0 : ((rd l0 (ji7)) == 255) = false := beq_eq_false_iff_ne.mpr c10
                      have c10b1 : ((rd l0 (ji7)) != 255) = true := bne_iff_ne.mpr c10
                      by_cases c11 : x4_1.length < 140737488355328
                      · rw [if_pos c11] at H
                        have LMc11 := Aside0.mk c11
                        clear c11
                        obtain ⟨y125, hy125⟩ : ∃ y_ : List Int, y_ = (x4_1 ++ [rd l0 x9_1]) := ⟨_, rfl⟩
                        replace H : (tag_Strip.l0 k1 l0 y125 l0 (l0.length : Int) (wrap64 (x9_1 + 1))) = some (r1, r2) := by first | (rw [hy125]; with_reducible exact H) | (have H2_ := (Option.bind_some _ _).symm.trans H; rw [hy125]; with_reducible exact H2_) | (have H2_ := (Option.bind_some _ _).symm.trans H; with_reducible exact H2_) | with_reducible exact H | (rw [hy125]; exact H) | exact H
                        have Ny125 := Aside0.mk hy125
                        clear hy125
                        have H' := Aside0.mk H
                        clear H
                        have p123 : 0 ≤ (x9_1 : Int) := of_decide_eq_true (by first | (with_reducible assumption) | assumption)
                        have q123 : x9_1 < (l0.length : Int) := of_decide_eq_true (by first | (with_reducible assumption) | assumption)
                        obtain ⟨ad123, e123, hx123_0⟩ := Kd.at_int HR0.out x9_1 p123 q123
                        cases e123
                        replace hx123_0 := (HB.out.cell (World.block_lt_of_cell? w _ hx123_0)).trans hx123_0
                        replace p123 := eq_true p123
                        replace q123 := eq_true q123
                        have p124 : 0 ≤ ((ji7) : Int) := of_decide_eq_true (by first | (with_reducible assumption) | assumption)
                        have q124 : (ji7) < (l0.length : Int) := of_decide_eq_true (by first | (with_reducible assumption) | assumption)
                        obtain ⟨ad124, e124, hx124_0⟩ := Kd.at_int HR0.out (ji7) p124 q124
                        obtain rfl : ad123 = ad124 := (by injection e124)
                        replace hx124_0 := (HB.out.cell (World.block_lt_of_cell? w _ hx124_0)).trans hx124_0
                        replace p124 := eq_true p124
                        replace q124 := eq_true q124
                        go_wp2_with (first | ((with_reducible refine gate_builtin (b := .append) (xs := #[.tmp 28, .tmp 30]) rfl ?_); at_builtin; refine Kd.R_append (Kd.int .u8) (w0 := w) w.heap.size rfl (.tmp 28) (.tmp 30) 27 5 (.int .u8 0) 1 rfl Tryd.underlying27 info5 rfl (by decide) (by omega) u4 x4_1 (rd l0 x9_1) [.int .u8 (rd l0 x9_1)] (fun _ => True) (fun _ => False) rfl rfl ?aP (fun _ hk => hk.elim) ?aF ?aO ?aB ?aS ?aL ?_; (case aP => exact rfl); (case aB => exact (by repeat (first | (with_reducible first | exact HB.out | apply below_alloc | apply pw_below_drewN | apply below_drew1) | exact HB.out))); (case aF => exact (fun _ _ => trivial)); (case aO => exact (by (with_reducible repeat (first | apply Kd.R_alloc | apply Kd.R_drewN | apply Kd.R_drew)); exact HO_4.out)); (case aS => exact (below_size (by repeat (first | (with_reducible first | exact HB.out | apply below_alloc | apply pw_below_drewN | apply below_drew1) | exact HB.out)))); (case aL => have := LMc11.out; omega); intro v126 w12 ho hb hg hat; rw [← Ny125.out] at ho; have n0_ := Aside0.mk (hb); have n1_ := Aside0.mk (ho); clear HB; clear HO_4; have HB := n0_; have HO127 := n1_; clear n0_ n1_; clear ho hb hg hat))
                        go_roundg k1
                        case measure => have := HK1.out; omega
                        case rel => exact ⟨(y125), (wrap64 (x9_1 + 1)), (by first | rfl | (simp; done) | (simp [*]; done)), H', ⟨by have := HK1.out; omega⟩, ⟨by (with_reducible repeat (first | apply Kd.R_alloc | apply Kd.R_drewN | apply Kd.R_drew)); exact HO127.out⟩, ⟨by repeat (first | (with_reducible first | exact HB.out | apply below_alloc | apply pw_below_drewN | apply below_drew1) | exact HB.out)⟩⟩
                      · rw [if_neg c11] at H
                        exact absurd H (by simp)
                  · rw [if_neg c9] at H
                    exact absurd H (by simp)
                · rw [if_neg c8] at H
                  exact absurd H (by simp)
              · rw [if_neg c6] at H
                have c6b0 : decide (0 < x9_1) = false := decide_eq_false c6
                clear c6
                by_cases c13 : x4_1.length < 140737488355328
                · rw [if_pos c13] at H
                  have LMc13 := Aside0.mk c13
                  clear c13
                  obtain ⟨y128, hy128⟩ : ∃ y_ : List Int, y_ = (x4_1 ++ [rd l0 x9_1]) := ⟨_, rfl⟩
                  replace H : (tag_Strip.l0 k1 l0 y128 l0 (l0.length : Int) (wrap64 (x9_1 + 1))) = some (r1, r2) := by first | (rw [hy128]; with_reducible exact H) | (have H2_ := (Option.bind_some _ _).symm.trans H; rw [hy128]; with_reducible exact H2_) | (have H2_ := (Option.bind_some _ _).symm.trans H; with_reducible exact H2_) | with_reducible exact H | (rw [hy128]; exact H) | exact H
                  have Ny128 := Aside0.mk hy128
                  clear hy128
                  have H' := Aside0.mk H
                  clear H
                  have p123 : 0 ≤ (x9_1 : Int) := of_decide_eq_true (by first | (with_reducible assumption) | assumption)
                  have q123 : x9_1 < (l0.length : Int) := of_decide_eq_true (by first | (with_reducible assumption) | assumption)
                  obtain ⟨ad123, e123, hx123_0⟩ := Kd.at_int HR0.out x9_1 p123 q123
                  cases e123
                  replace hx123_0 := (HB.out.cell (World.block_lt_of_cell? w _ hx123_0)).trans hx123_0
                  replace p123 := eq_true p123
                  replace q123 := eq_true q123
                  go_wp2_with (first | ((with_reducible refine gate_builtin (b := .append) (xs := #[.tmp 28, .tmp 30]) rfl ?_); at_builtin; refine Kd.R_append (Kd.int .u8) (w0 := w) w.heap.size rfl (.tmp 28) (.tmp 30) 27 5 (.int .u8 0) 1 rfl Tryd.underlying27 info5 rfl (by decide) (by omega) u4 x4_1 (rd l0 x9_1) [.int .u8 (rd l0 x9_1)] (fun _ => True) (fun _ => False) rfl rfl ?aP (fun _ hk => hk.elim) ?aF ?aO ?aB ?aS ?aL ?_; (case aP => exact rfl); (case aB => exact (by repeat (first | (with_reducible first | exact HB.out | apply below_alloc | apply pw_below_drewN | apply below_drew1) | exact HB.out))); (case aF => exact (fun _ _ => trivial)); (case aO => exact (by (with_reducible repeat (first | apply Kd.R_alloc | apply Kd.R_drewN | apply Kd.R_drew)); exact HO_4.out)); (case aS => exact (below_size (by repeat (first | (with_reducible first | exact HB.out | apply below_alloc | apply pw_below_drewN | apply below_drew1) | exact HB.out)))); (case aL => have := LMc13.out; omega); intro v129 w14 ho hb hg hat; rw [← Ny128.out] at ho; have n0_ := Aside0.mk (hb); have n1_ := Aside0.mk (ho); clear HB; clear HO_4; have HB := n0_; have HO130 := n1_; clear n0_ n1_; clear ho hb hg hat))
                  go_roundg k1
                  case measure => have := HK1.out; omega
                  case rel => exact ⟨(y128), (wrap64 (x9_1 + 1)), (by first | rfl | (simp; done) | (simp [*]; done)), H', ⟨by have := HK1.out; omega⟩, ⟨by (with_reducible repeat (first | apply Kd.R_alloc | apply Kd.R_drewN | apply Kd.R_drew)); exact HO130.out⟩, ⟨by repeat (first | (with_reducible first | exact HB.out | apply below_alloc | apply pw_below_drewN | apply below_drew1) | exact HB.out)⟩⟩
                · rw [if_neg c13] at H
                  exact absurd H (by simp)
            · rw [if_neg c5] at H
              have c5b0 : ((rd l0 x9_1) == 0) = false := beq_eq_false_iff_ne.mpr c5
              have c5b1 : ((rd l0 x9_1) != 0) = true := bne_iff_ne.mpr c5
              by_cases c15 : x4_1.length < 140737488355328
              · rw [if_pos c15] at H
                have LMc15 := Aside0.mk c15
                clear c15
                obtain ⟨y131, hy131⟩ : ∃ y_ : List Int, y_ = (x4_1 ++ [rd l0 x9_1]) := ⟨_, rfl⟩
                replace H : (tag_Strip.l0 k1 l0 y131 l0 (l0.length : Int) (wrap64 (x9_1 + 1))) = some (r1, r2) := by first | (rw [hy131]; with_reducible exact H) | (have H2_ := (Option.bind_some _ _).symm.trans H; rw [hy131]; with_reducible exact H2_) | (have H2_ := (Option.bind_some _ _).symm.trans H; with_reducible exact H2_) | with_reducible exact H | (rw [hy131]; exact H) | exact H
                have Ny131 := Aside0.mk hy131
                clear hy131
                have H' := Aside0.mk H
                clear H
                have p123 : 0 ≤ (x9_1 : Int) := of_decide_eq_true (by first | (with_reducible assumption) | assumption)
                have q123 : x9_1 < (l0.length : Int) := of_decide_eq_true (by first | (with_reducible assumption) | assumption)
                obtain ⟨ad123, e123, hx123_0⟩ := Kd.at_int HR0.out x9_1 p123 q123
                cases e123
                replace hx123_0 := (HB.out.cell (World.block_lt_of_cell? w _ hx123_0)).trans hx123_0
                replace p123 := eq_true p123
                replace q123 := eq_true q123
                go_wp2_with (first | ((with_reducible refine gate_builtin (b := .append) (xs := #[.tmp 28, .tmp 30]) rfl ?_); at_builtin; refine Kd.R_append (Kd.int .u8) (w0 := w) w.heap.size rfl (.tmp 28) (.tmp 30) 27 5 (.int .u8 0) 1 rfl Tryd.underlying27 info5 rfl (by decide) (by omega) u4 x4_1 (rd l0 x9_1) [.int .u8 (rd l0 x9_1)] (fun _ => True) (fun _ => False) rfl rfl ?aP (fun _ hk => hk.elim) ?aF ?aO ?aB ?aS ?aL ?_; (case aP => exact rfl); (case aB => exact (by repeat (first | (with_reducible first | exact HB.out | apply below_alloc | apply pw_below_drewN | apply below_drew1) | exact HB.out))); (case aF => exact (fun _ _ => trivial)); (case aO => exact (by (with_reducible repeat (first | apply Kd.R_alloc | apply Kd.R_drewN | apply Kd.R_drew)); exact HO_4.out)); (case aS => exact (below_size (by repeat (first | (with_reducible first | exact HB.out | apply below_alloc | apply pw_below_drewN | apply below_drew1) | exact HB.out)))); (case aL => have := LMc15.out; omega); intro v132 w16 ho hb hg hat; rw [← Ny131.out] at ho; have n0_ := Aside0.mk (hb); have n1_ := Aside0.mk (ho); clear HB; clear HO_4; have HB := n0_; have HO133 := n1_; clear n0_ n1_; clear ho hb hg hat))
                go_roundg k1
                case measure => have := HK1.out; omega
                case rel => exact ⟨(y131), (wrap64 (x9_1 + 1)), (by first | rfl | (simp; done) | (simp [*]; done)), H', ⟨by have := HK1.out; omega⟩, ⟨by (with_reducible repeat (first | apply Kd.R_alloc | apply Kd.R_drewN | apply Kd.R_drew)); exact HO133.out⟩, ⟨by repeat (first | (with_reducible first | exact HB.out | apply below_alloc | apply pw_below_drewN | apply below_drew1) | exact HB.out)⟩⟩
              · rw [if_neg c15] at H
                exact absurd H (by simp)
          · rw [if_neg c4] at H
            exact absurd H (by simp)
        · rw [if_neg c3] at H
          exact absurd H (by simp)
      · rw [if_neg c2] at H
        have c2b0 : decide (x9_1 < (l0.length : Int)) = false := decide_eq_false c2
        clear c2
        replace H := Option.bind_eq_some_iff.mp H
        obtain ⟨t134, A170, H⟩ := H
        replace H : ((slices_Equal_byte_byte.f k1 t134 l0).bind fun t137 => (if t137 = true then (some (x4_1, 0)) else (some (([] : List Int), 4)))) = some (r1, r2) := H
        have A17 := Aside0.mk A170
        clear A170
        replace H := Option.bind_eq_some_iff.mp H
        obtain ⟨t137, A180, H⟩ := H
        replace H : (if t137 = true then (some (x4_1, 0)) else (some (([] : List Int), 4))) = some (r1, r2) := H
        have A18 := Aside0.mk A180
        clear A180
        by_cases c19 : t137 = true
        · subst c19
          have H1 : (some (x4_1, 0)) = some (r1, r2) := by rw [if_pos rfl] at H; exact H
          clear H
          have H := H1
          clear H1
          simp only [Option.some.injEq, Prod.mk.injEq] at H
          obtain ⟨rfl, rfl⟩ := H
          obtain ⟨Ao20, co20, eo20⟩ := Kd.R_slice HO_4.out
          subst eo20
          go_wp2_with (first | ((with_reducible refine gate_callee (f := 21) rfl ?_); refine goesL_ (some 34) rfl rfl Tryd.func21 (by kernel_rfl) rfl #[.slice Ao20 x4_1.length co20] rfl (by (try simp only [List.map_toArray, List.map_cons, List.map_nil]); first | done | rfl | (simp only [List.length_drop, List.length_take]; rfl)) ?_; (with_reducible refine (tag_Stuff.calls _ _ x4_1 t134 _ ?side1 ?side2 A17.out).mono ?_); (case side1 => repeat (first | exact (Kd.R_reads' HO_4.out).2.2 | (with_reducible refine Kd.C_alloc ?_ _) | (with_reducible refine Kd.C_drewN ?_ _) | (with_reducible refine Kd.C_drew ?_))); (case side2 => exact (Kd.R_reads' HO_4.out).2.1); rintro e w21 ⟨v135, rfl, ho0, hb⟩; refine ⟨_, rfl, ?_⟩; have n0_ := Aside0.mk (Kd.R_elder' (by (with_reducible repeat (first | apply Kd.R_alloc | apply Kd.R_drewN | apply Kd.R_drew)); exact HO_4.out) (Kd.R_base ho0) hb); have n1_ := Aside0.mk (Kd.R_lower (Kd.R_new' ho0 (Kd.R_lt (by (with_reducible repeat (first | apply Kd.R_alloc | apply Kd.R_drewN | apply Kd.R_drew)); exact HO_4.out))) (below_size (by repeat (first | (with_reducible first | exact HB.out | apply below_alloc | apply pw_below_drewN | apply below_drew1) | exact HB.out)))); have n2_ := Aside0.mk (below_step (by repeat (first | (with_reducible first | exact HB.out | apply below_alloc | apply pw_below_drewN | apply below_drew1) | exact HB.out)) hb); clear HO_4; clear HB; have HO_4 := n0_; have HO136 := n1_; have HB := n2_; clear n0_ n1_ n2_; (try clear hb); (try clear hb2); (try clear hk); (try clear hi); (try clear ho0); obtain ⟨Ao22, co22, eo22⟩ := Kd.R_slice HO136.out; subst eo22) | ((with_reducible refine gate_callee (f := 47) rfl ?_); refine goesL_ (some 36) rfl rfl Tryd.func47 (by kernel_rfl) rfl #[.slice Ao22 t134.length co22, .slice A0 l0.length c0] rfl (by (try simp only [List.map_toArray, List.map_cons, List.map_nil]); first | done | rfl | (simp only [List.length_drop, List.length_take]; rfl)) ?_; (with_reducible refine (slices_Equal_byte_byte.calls k1 _ _ t134 _ _ l0 true _ ?side1 ?side2 ?side3 ?side4 A18.out).mono ?_); (case side1 => repeat (first | exact (Kd.R_reads' HO136.out).2.2 | (with_reducible refine Kd.C_alloc ?_ _) | (with_reducible refine Kd.C_drewN ?_ _) | (with_reducible refine Kd.C_drew ?_))); (case side2 => exact (Kd.R_reads' HO136.out).2.1); (case side3 => repeat (first | exact (Kd.C_below HR0.out HB.out) | (with_reducible refine Kd.C_alloc ?_ _) | (with_reducible refine Kd.C_drewN ?_ _) | (with_reducible refine Kd.C_drew ?_))); (case side4 => exact HC0.out); rintro e w' ⟨rfl, ⟨nd, rfl⟩⟩; refine ⟨_, rfl, ?_⟩))
          go_ret2
          exact ⟨_, by first | rfl | (simp [errW_none, errW_some] <;> rfl) | (simp [*, errW_none, errW_some] <;> rfl), by (with_reducible repeat (first | apply Kd.R_alloc | apply Kd.R_drewN | apply Kd.R_drew)); exact Kd.R_mono HO_4.out (fun _ hk => trivial), by repeat (first | (with_reducible first | exact HB.out | apply below_alloc | apply pw_below_drewN | apply below_drew1) | exact HB.out)⟩
        · replace c19 := Bool.eq_false_iff.mpr c19
          subst c19
          have H1 : (some (([] : List Int), 4)) = some (r1, r2) := by rw [if_neg (show ¬ (false = true) by decide)] at H; exact H
          clear H
          have H := H1
          clear H1
          simp only [Option.some.injEq, Prod.mk.injEq] at H
          obtain ⟨rfl, rfl⟩ := H
          obtain ⟨Ao23, co23, eo23⟩ := Kd.R_slice HO_4.out
          subst eo23
          go_wp2_with (first | ((with_reducible refine gate_callee (f := 21) rfl ?_); refine goesL_ (some 34) rfl rfl Tryd.func21 (by kernel_rfl) rfl #[.slice Ao23 x4_1.length co23] rfl (by (try simp only [List.map_toArray, List.map_cons, List.map_nil]); first | done | rfl | (simp only [List.length_drop, List.length_take]; rfl)) ?_; (with_reducible refine (tag_Stuff.calls _ _ x4_1 t134 _ ?side1 ?side2 A17.out).mono ?_); (case side1 => repeat (first | exact (Kd.R_reads' HO_4.out).2.2 | (with_reducible refine Kd.C_alloc ?_ _) | (with_reducible refine Kd.C_drewN ?_ _) | (with_reducible refine Kd.C_drew ?_))); (case side2 => exact (Kd.R_reads' HO_4.out).2.1); rintro e w24 ⟨v135, rfl, ho0, hb⟩; refine ⟨_, rfl, ?_⟩; have n0_ := Aside0.mk (Kd.R_elder' (by (with_reducible repeat (first | apply Kd.R_alloc | apply Kd.R_drewN | apply Kd.R_drew)); exact HO_4.out) (Kd.R_base ho0) hb); have n1_ := Aside0.mk (Kd.R_lower (Kd.R_new' ho0 (Kd.R_lt (by (with_reducible repeat (first | apply Kd.R_alloc | apply Kd.R_drewN | apply Kd.R_drew)); exact HO_4.out))) (below_size (by repeat (first | (with_reducible first | exact HB.out | apply below_alloc | apply pw_below_drewN | apply below_drew1) | exact HB.out)))); have n2_ := Aside0.mk (below_step (by repeat (first | (with_reducible first | exact HB.out | apply below_alloc | apply pw_below_drewN | apply below_drew1) | exact HB.out)) hb); clear HO_4; clear HB; have HO_4 := n0_; have HO136 := n1_; have HB := n2_; clear n0_ n1_ n2_; (try clear hb); (try clear hb2); (try clear hk); (try clear hi); (try clear ho0); obtain ⟨Ao25, co25, eo25⟩ := Kd.R_slice HO136.out; subst eo25) | ((with_reducible refine gate_callee (f := 47) rfl ?_); refine goesL_ (some 36) rfl rfl Tryd.func47 (by kernel_rfl) rfl #[.slice Ao25 t134.length co25, .slice A0 l0.length c0] rfl (by (try simp only [List.map_toArray, List.map_cons, List.map_nil]); first | done | rfl | (simp only [List.length_drop, List.length_take]; rfl)) ?_; (with_reducible refine (slices_Equal_byte_byte.calls k1 _ _ t134 _ _ l0 false _ ?side1 ?side2 ?side3 ?side4 A18.out).mono ?_); (case side1 => repeat (first | exact (Kd.R_reads' HO136.out).2.2 | (with_reducible refine Kd.C_alloc ?_ _) | (with_reducible refine Kd.C_drewN ?_ _) | (with_reducible refine Kd.C_drew ?_))); (case side2 => exact (Kd.R_reads' HO136.out).2.1); (case side3 => repeat (first | exact (Kd.C_below HR0.out HB.out) | (with_reducible refine Kd.C_alloc ?_ _) | (with_reducible refine Kd.C_drewN ?_ _) | (with_reducible refine Kd.C_drew ?_))); (case side4 => exact HC0.out); rintro e w' ⟨rfl, ⟨nd, rfl⟩⟩; refine ⟨_, rfl, ?_⟩))
          go_ret2
          exact ⟨_, by first | rfl | (simp [errW_none, errW_some] <;> rfl) | (simp [*, errW_none, errW_some] <;> rfl), by first | exact Kd.R_nil _ _ _ _ _ | exact Kd.N_nil _ _ _ _ _ | exact Kd.V_nil _ _ _ _ _ | exact Kd.Q_nil _ _ _ _ _ | exact Kd.S_nil _ _ _ _ _, by repeat (first | (with_reducible first | exact HB.out | apply below_alloc | apply pw_below_drewN | apply below_drew1) | exact HB.out)⟩
end Go.Proofs.YthlmnnjbpikijaaDoor.P
end
