/- The contract of frame.All. The contract of frame.Lost. -/
import Derived.Test.YtnaklnehichhpaaDoorKl
import Derived.Test.YtnaklnehichhpaaDoorKe
import Derived.Test.YtnaklnehichhpaaDoorKf
namespace Go.Proofs.YtnaklnehichhpaaDoor.P
section
open Go.RowKit Go.Shelf Go.Proofs.YtnaklnehichhpaaDoor.Bits Go.Proofs.YtnaklnehichhpaaDoorW.PrintWords Go.Proofs.YtnaklnehichhpaaDoorW.PrintLast Go.Proofs.YtnaklnehichhpaaDoorW.PrintMore
set_option linter.unusedVariables false
set_option linter.unusedSimpArgs false

theorem iinfo : (Tryd.prog.info? 3).map (fun i => (i.zero, i.size, i.bytes)) = some (some (.int .i64 0), 1, 8) := by kernel_rfl
def flatI (l : List Int) : List Value := l.map fun x => .int .i64 x
/-- A row of one's own, in memory made from base on, as values. -/
abbrev RowV (w : World) (base : Nat) (e : TypeId) (sz : Nat) (v : Value) (n : Nat) (fl : List Value) : Prop := w.ownsRow base e sz v n fl
theorem RowV.fr {w w' : World} {base : Nat} {e : TypeId} {sz : Nat} {v : Value} {n : Nat} {fl : List Value} {T : Nat → Prop} (h : RowV w base e sz v n fl) (hf : Fr T w w') (hT : ∀ k cs, T k → k < w.heap.size → w.heap[k]? ≠ some (.cells cs e (0, 0))) : RowV w' base e sz v n fl := by
  refine ⟨h.1, ?_⟩
  rcases h.2 with hn | ⟨g, cap, cur, rfl, hb, hg, rest⟩
  · exact .inl hn
  · exact .inr ⟨g, cap, cur, rfl, hb, blk_fr hg hf (fun ht => hT g cur ht (lt_of_block hg) hg), rest⟩
theorem RowV.below {w w' : World} {base : Nat} {e : TypeId} {sz : Nat} {v : Value} {n : Nat} {fl : List Value} (h : RowV w base e sz v n fl) (hb : Below w.heap.size w w') : RowV w' base e sz v n fl :=
  h.fr (Fr.below hb (fun _ => False)) (fun _ _ hk => hk.elim)
theorem RowV.block {w : World} {base : Nat} {e : TypeId} {sz : Nat} {v : Value} {n : Nat} {fl : List Value} (h : RowV w base e sz v n fl) (j : Nat) (hj : v.ownBlock = some j) : (∃ cs, w.heap[j]? = some (.cells cs e (0, 0))) ∧ base ≤ j := by
  rcases h.2 with ⟨rfl, hn⟩ | ⟨g, cap, cur, rfl, hb, hg, rest⟩
  · simp [Value.ownBlock] at hj
  · simp [Value.ownBlock] at hj
    subst hj
    exact ⟨⟨cur, hg⟩, hb⟩
theorem RowV.slice {w : World} {base : Nat} {e : TypeId} {sz : Nat} {v : Value} {n : Nat} {fl : List Value} (h : RowV w base e sz v n fl) : ∃ A c, v = .slice A n c := by
  rcases h.2 with ⟨rfl, hn⟩ | ⟨g, cap, cur, rfl, hb, hg, rest⟩
  · have h0 : n = 0 := hn
    subst h0
    exact ⟨none, 0, rfl⟩
  · exact ⟨_, _, rfl⟩
theorem RowV.own {β : Type} (B base : Nat) (e : TypeId) (sz : Nat) (v : Value) (n : Nat) (fl : List Value) : OwnFrom B (fun (_ : β) W => RowV W base e sz v n fl) := fun s X Y row hs hg hr =>
  RowV.fr hs (T := fun k => row = some k) ((Fr.refl _ _).grown hg (fun k _ e => e)) (fun k cs hk hl he => by
    obtain ⟨_, o, ho, hc⟩ := hr k hk
    rw [he] at ho
    cases ho
    cases hc)
theorem rowI_append (W : World) (base : Nat) (v : Value) (l : List Int) (x : Int) (g : Nat) (h : RowV W base 3 1 v l.length (flatI l)) (hg : W.heap[g]? = some (.cells #[.int .i64 x] 3 (0, 0))) (hl : l.length ≤ 1000000001) (hb : base ≤ W.heap.size) :
    ∃ v1 w1, (Builtin.append_ #[38, 38] 38 #[v, .slice (some ⟨g, 0, none⟩) 1 1]).run Tryd.prog W = .ok v1 w1 ∧ RowV w1 base 3 1 v1 (l ++ [x]).length (flatI (l ++ [x])) ∧ W.grownBy w1 v.ownBlock := by
  obtain ⟨i0, hi, hzz⟩ := Option.map_eq_some_iff.1 iinfo
  simp only [Prod.mk.injEq] at hzz
  obtain ⟨hz0, hz1, hz2⟩ := hzz
  obtain ⟨v1, w1, hr, h2, h3, _, _⟩ := run_append_own_at (P := Tryd.prog) W base 38 38 3 i0 _ 1 8 Tryd.underlying38 hi hz0 hz1 hz2 rfl (by omega) v l.length (flatI l) h ⟨g, 0, none⟩ 1 1 [.int .i64 x] (by simp)
    (fun j u hu => by
      rw [show (⟨g, 0, none⟩ : Addr).add j = ⟨g, j, none⟩ by simp [Addr.add_lit], cell_of_row W g j #[.int .i64 x] _ (0, 0) hg]
      simpa using hu)
    (by intro u hu; simp at hu; subst hu; rfl) (by simp only [maxLen]; omega) (by omega) hb
  refine ⟨v1, w1, hr, ?_, h3⟩
  have e : flatI (l ++ [x]) = flatI l ++ [.int .i64 x] := by simp [flatI]
  rw [e, List.length_append]
  exact h2
abbrev boxI (v : Value) : Obj := .cells #[v] 38 (0, 0)
def placesF (B : List Int) : List Int := (allF B).map fun x => (x.1 : Int)

attribute [local go_sem] Oper.semAt_some
set_option maxHeartbeats 4000000 in
set_option maxRecDepth 100000 in
theorem All_any (A : Option Addr) (c : Nat) (B : List Int) (w : World) (hC : Kd.C (Kd.int .u8) w A B.length B) (h8 : is8 B) (hBl : B.length ≤ 1000000000) (hc : B.length ≤ c) (hg : HG w) :
    Calls Tryd.prog 21 #[.slice A B.length c] w fun e w' => ∃ v, e = .returned v ∧ RowV w' w.heap.size 3 1 v (placesF B).length (flatI (placesF B)) ∧ Below w.heap.size w w' := by
  obtain ⟨b3, hb3⟩ : ∃ b3, b3 = w.heap.size := ⟨_, rfl⟩
  obtain ⟨w1, hw1⟩ : ∃ w1, w1 = w.alloc (boxI (.slice none 0 0)) := ⟨_, rfl⟩
  obtain ⟨w4, hw4⟩ : ∃ w4, w4 = w1.alloc (byteBox A B.length c) := ⟨_, rfl⟩
  obtain ⟨bx, hbx⟩ : ∃ bx, bx = w1.heap.size := ⟨_, rfl⟩
  have hsz1 : w1.heap.size = w.heap.size + 1 := by rw [hw1]; simp
  have hsz4 : w4.heap.size = w1.heap.size + 1 := by rw [hw4]; simp
  have hB4 : Below w.heap.size w w4 := by rw [hw4, hw1]; exact below_alloc (below_alloc (Below.refl _ _) _) _
  have HK3 : Aside0 (w4.heap[b3]? = some (boxI (.slice none 0 0))) := ⟨by rw [hw4, hb3]; exact blk_alloc' (by rw [hw1]; exact World.alloc_heap_new w _) _⟩
  have HKX : Aside0 (w4.heap[bx]? = some (byteBox A B.length c)) := ⟨by rw [hw4, hbx]; exact World.alloc_heap_new w1 _⟩
  have hst := all_stops 4 bx A c B (fun k => w.heap.size ≤ k ∧ k ≠ bx) w w4 HKX.out hC h8 hBl hc hg hB4 (fun k hk => hk)
  have HST := Aside0.mk hst
  have HB4 := Aside0.mk hB4
  have HN3 : Aside0 (b3 = w.heap.size ∧ b3 ≠ bx ∧ b3 < w4.heap.size ∧ bx < w4.heap.size) := ⟨by omega⟩
  have HW1 := Aside0.mk hw1
  have HW4 := Aside0.mk hw4
  have HBX := Aside0.mk hbx
  have HB3 := Aside0.mk hb3
  clear hst hB4 hw1 hw4 hsz1 hsz4 hC h8 hg hb3 hbx
  refine (callsIn_wide (n := 5)).1 ?_
  refine callsIn_of_wp_marks Tryd.func21 rfl trivial ?_ rfl
  simp only [Tryd.ntmps21, List.size_toArray, List.length_cons, List.length_nil, Nat.reduceAdd, Nat.reduceSub, Array.replicate_succ, Array.replicate_zero, List.push_toArray, List.append_toArray, List.nil_append, List.cons_append]
  refine wpIn_wide.2 ?_
  go_wp2_with fail
  rw [← HW1.out, ← HB3.out]
  refine (all_any A B.length c w1).mono ?_
  rintro e w2 ⟨rfl, hw2⟩
  rw [← HW4.out] at hw2
  obtain rfl := hw2.symm
  rw [← HBX.out]
  go_wp2_with fail
  refine (wpIn_wide (n := 5)).1 ?_
  refine wpIn_rangeFunc_ownG rfl (by omega) (gf := 58) (lb := #[.pointer (some ⟨bx, 0, none⟩)]) rfl trivial (enters_of Tryd.func58 (by kernel_rfl) rfl)
    HST.out (fun h k => h.trans k) ?hKb (Below.refl w4.heap.size w4) (fun _ => rfl)
    (fun pre W => (Below w.heap.size w W ∧ w4.heap.size ≤ W.heap.size) ∧ ∃ v, W.heap[b3]? = some (boxI v) ∧ RowV W w4.heap.size 3 1 v (pre.map fun x => ((x.1 : Nat) : Int)).length (flatI (pre.map fun x => ((x.1 : Nat) : Int))))
    (fun _ _ _ => False) ?hI (fun _ _ _ _ _ hs _ _ => hs) ⟨⟨HB4.out, Nat.le_refl _⟩, .slice none 0 0, HK3.out, World.ownsRow_nil w4 w4.heap.size _ _⟩
    (fun x => { tmps := #[.slice A B.length c, undef, .slice none 0 0, .pointer (some ⟨b3, 0, none⟩), .int .i64 (x.1 : Int), .slice A B.length c, seqA bx, .int .i64 (x.1 : Int), .int .i64 (x.2 : Int), undef, undef, undef, undef, undef], defers := [] })
    ?assign ?body ?done ?stop
  case hKb =>
    intro W l o o' hl ho hc _
    exact (Fr.refl _ _).grown (grownBy_putObj' W l o') (fun k _ e => by cases e; have := HN3.out; exact ⟨by have := HB4.out.size; omega, by omega⟩)
  case hI =>
    rintro s X Y row ⟨⟨hb, hs4⟩, v, h3, hr⟩ hg hrow
    refine ⟨⟨hb.grown hg hb.size (fun k e => by have := (hrow k e).1; have := HB4.out.size; omega), Nat.le_trans hs4 hg.size⟩, v, own_cells (β := Unit) w4.heap.size b3 _ _ _ () X Y row h3 hg hrow, RowV.own (β := Unit) w4.heap.size _ _ _ _ _ _ () X Y row hr hg hrow⟩
  case assign =>
    intro l x W K hK
    gi_wp2
    exact hK
  case body =>
    rintro l pre x W ⟨⟨hb, hs4⟩, v, h3, hr⟩ hlen
    have c3 := cell_of_one h3
    have hr1 := hr.below (below_alloc (Below.refl _ _) (.cells #[.int .i64 (x.1 : Int)] 3 (0, 0)))
    obtain ⟨v1, w2, hrun, hr2, hg2⟩ := rowI_append (W.alloc (.cells #[.int .i64 (x.1 : Int)] 3 (0, 0))) w4.heap.size v _ (x.1 : Int) W.heap.size hr1 (World.alloc_heap_new W _) (by simp; omega) (by simp; omega)
    generalize hnl : (pre.map (fun x : Nat × Nat => ((x.1 : Nat) : Int)) ++ [(x.1 : Int)]).length = n1 at hr2
    obtain ⟨A1, c1, rfl⟩ := hr2.slice
    have h31 := blk_alloc' h3 (.cells #[.int .i64 (x.1 : Int)] 3 (0, 0))
    have h32 : w2.heap[b3]? = some (boxI v) := (hg2.block _ (lt_of_block h31) (fun e => by have := (hr.block b3 e.symm).2; have := HN3.out; omega)).trans h31
    have c32 := cell_of_one h32
    have f32 : w2.frozen? ⟨b3, 0, none⟩ = false := blk_frozen h32 0
    have hfr : Fr (fun k => k = b3 ∨ v.ownBlock = some k) W (w2.setCell ⟨b3, 0, none⟩ (.slice A1 n1 c1)) := Fr.setCell ((Fr.below (below_alloc (Below.refl _ _) _) _).grown hg2 (fun k _ e => .inr e)) (p := ⟨b3, 0, none⟩) (fun _ => .inl rfl) _
    have HFR := Aside0.mk hfr
    have HR := Aside0.mk hr
    have HR2 := Aside0.mk hr2
    have H3 := Aside0.mk h3
    have H32 := Aside0.mk h32
    have HB := Aside0.mk hb
    have HS4 := Aside0.mk hs4
    have HRUN := Aside0.mk hrun
    clear hr1 hr hrun hr2 hg2 h31 h32 h3 hfr hb
    gi_wp2_with (gi_at_builtin; refine wpListIn_run_append rfl _ _ _ rfl _ _ rfl rfl HRUN.out ?_)
    refine ⟨HFR.out.keepsFrom (fun k hk o ho => ?_), HFR.out.mono (fun k _ hk => ?_), ⟨HB.out.trans (HFR.out.to_below HB.out.size (fun k hk => ?_)), Nat.le_trans HS4.out HFR.out.size⟩, .slice A1 n1 c1, ?_, ?_⟩
    · rcases hk with rfl | q
      · rw [H3.out] at ho; cases ho; rfl
      · obtain ⟨⟨cs, hc⟩, _⟩ := HR.out.block k q
        rw [hc] at ho; cases ho; rfl
    · have := HN3.out
      have := HB4.out.size
      rcases hk with rfl | q
      · exact ⟨by omega, by omega⟩
      · have := (HR.out.block k q).2
        exact ⟨by omega, by omega⟩
    · have := HN3.out
      have := HB4.out.size
      rcases hk with rfl | q
      · omega
      · have := (HR.out.block k q).2
        omega
    · rw [heap_setCell_same _ _ _ _ _ _ H32.out]; rfl
    · have e : (pre ++ [x]).map (fun x : Nat × Nat => ((x.1 : Nat) : Int)) = pre.map (fun x => ((x.1 : Nat) : Int)) ++ [(x.1 : Int)] := by simp
      rw [e, hnl]
      refine RowV.fr HR2.out (T := fun k => k = b3) (Fr.setCell (S := fun k => k = b3) (Fr.refl _ _) (p := ⟨b3, 0, none⟩) (fun _ => rfl) _) (fun k cs hk _ he => ?_)
      subst hk
      rw [H32.out] at he
      cases he
  case done =>
    rintro D ys W hD rfl ⟨⟨hb, hs4⟩, v, h3, hr⟩ hK
    have c3 := cell_of_one h3
    have HR := Aside0.mk hr
    have HB := Aside0.mk hb
    have HK := Aside0.mk hK
    clear h3 hr hb hK
    (try simp only [Exit.inBlock, Exit.then])
    go_wp2_with fail
    refine ⟨by simp, .inl ⟨_, _, rfl, run_takeDeferred HK.out, ?_⟩⟩
    have hfD : Fr (fun k => k = D) W (W.putObj D (.deferred none)) := (Fr.refl _ _).grown (grownBy_putObj' W D (.deferred none)) (fun k _ e => by cases e; rfl)
    refine ⟨_, results_tmp rfl _ _ _, _, rfl, ?_, HB.out.trans (hfD.to_below HB.out.size (fun k hk => by subst hk; have := HB4.out.size; omega))⟩
    have hrow : RowV W w.heap.size 3 1 v (placesF B).length (flatI (placesF B)) := by
      have h := HR.out
      refine ⟨h.1, ?_⟩
      rcases h.2 with hn | ⟨g, cap, cur, rfl, hb, hg, rest⟩
      · exact .inl hn
      · exact .inr ⟨g, cap, cur, rfl, Nat.le_trans HB4.out.size hb, hg, rest⟩
    refine hrow.fr hfD (fun k cs hk _ he => ?_)
    subst hk
    rw [HK.out] at he
    cases he
  case stop =>
    rintro D c pre W _ _ h _
    exact h.elim
end
section
open Go.RowKit Go.Shelf Go.Proofs.YtnaklnehichhpaaDoor.Bits Go.Proofs.YtnaklnehichhpaaDoorW.PrintWords Go.Proofs.YtnaklnehichhpaaDoorW.PrintLast Go.Proofs.YtnaklnehichhpaaDoorW.PrintMore
set_option linter.unusedVariables false
set_option linter.unusedSimpArgs false

theorem pinfo : (Tryd.prog.info? 51).map (fun i => (i.zero, i.size, i.bytes)) = some (some (.agg #[.int .i64 0, .int .i64 0]), 2, 16) := by kernel_rfl
def flatP (l : List (Nat × Nat)) : List Value := l.flatMap fun x => [.int .i64 (x.1 : Int), .int .i64 (x.2 : Int)]
theorem flatP_length (l : List (Nat × Nat)) : (flatP l).length = l.length * 2 := by
  unfold flatP
  induction l with
  | nil => rfl
  | cons x l ih => rw [List.flatMap_cons, List.length_append, ih, List.length_cons]; simp; omega
theorem flatP_snoc (l : List (Nat × Nat)) (x : Nat × Nat) : flatP (l ++ [x]) = flatP l ++ [.int .i64 (x.1 : Int), .int .i64 (x.2 : Int)] := by simp [flatP]
theorem rowP_append (W : World) (base : Nat) (v : Value) (l : List (Nat × Nat)) (a b : Nat) (g : Nat) (h : RowV W base 51 2 v l.length (flatP l)) (hg : W.heap[g]? = some (.cells #[.int .i64 (a : Int), .int .i64 (b : Int)] 51 (0, 0))) (hl : l.length ≤ 1000000001) (hb : base ≤ W.heap.size) :
    ∃ v1 w1, (Builtin.append_ #[41, 41] 41 #[v, .slice (some ⟨g, 0, none⟩) 1 1]).run Tryd.prog W = .ok v1 w1 ∧ RowV w1 base 51 2 v1 (l ++ [(a, b)]).length (flatP (l ++ [(a, b)])) ∧ W.grownBy w1 v.ownBlock := by
  obtain ⟨i0, hi, hzz⟩ := Option.map_eq_some_iff.1 pinfo
  simp only [Prod.mk.injEq] at hzz
  obtain ⟨hz0, hz1, hz2⟩ := hzz
  obtain ⟨v1, w1, hr, h2, h3, _, _⟩ := run_append_own_at (P := Tryd.prog) W base 41 41 51 i0 _ 2 16 Tryd.underlying41 hi hz0 hz1 hz2 rfl (by omega) v l.length (flatP l) h ⟨g, 0, none⟩ 1 1 [.int .i64 (a : Int), .int .i64 (b : Int)] (by simp)
    (fun j u hu => by
      rw [show (⟨g, 0, none⟩ : Addr).add j = ⟨g, j, none⟩ by simp [Addr.add_lit], cell_of_row W g j #[.int .i64 (a : Int), .int .i64 (b : Int)] _ (0, 0) hg]
      simpa using hu)
    (by intro u hu; simp at hu; rcases hu with rfl | rfl <;> rfl) (by simp only [maxLen]; omega) (by omega) hb
  refine ⟨v1, w1, hr, ?_, h3⟩
  rw [flatP_snoc, List.length_append]
  exact h2
abbrev boxP (v : Value) : Obj := .cells #[v] 41 (0, 0)
abbrev boxN (n : Nat) : Obj := .cells #[.int .i64 (n : Int)] 3 (0, 0)
/-- What is in no frame, so far: where the last frame ended, and the parts. -/
def lostL (l : List (Nat × Nat)) : Nat × List (Nat × Nat) := l.foldl (fun s x => (x.2, if s.1 < x.1 then s.2 ++ [(s.1, x.1)] else s.2)) (0, [])
theorem lostL_snoc (l : List (Nat × Nat)) (x : Nat × Nat) : lostL (l ++ [x]) = (x.2, if (lostL l).1 < x.1 then (lostL l).2 ++ [((lostL l).1, x.1)] else (lostL l).2) := by unfold lostL; rw [List.foldl_append]; rfl
theorem lostL_le (l : List (Nat × Nat)) : (lostL l).2.length ≤ l.length := by
  have : ∀ (l : List (Nat × Nat)) (s : Nat × List (Nat × Nat)), (l.foldl (fun s x => (x.2, if s.1 < x.1 then s.2 ++ [(s.1, x.1)] else s.2)) s).2.length ≤ s.2.length + l.length := by
    intro l
    induction l with
    | nil => intro s; exact Nat.le_refl _
    | cons x l ih =>
      intro s
      rw [List.foldl_cons]
      refine Nat.le_trans (ih _) ?_
      dsimp only
      split
      · rw [List.length_append]; simp; omega
      · simp
  simpa [lostL] using this l (0, [])
def lostF (B : List Int) : List (Nat × Nat) := if (lostL (allF B)).1 < B.length then (lostL (allF B)).2 ++ [((lostL (allF B)).1, B.length)] else (lostL (allF B)).2
theorem allN_len (B : List Int) : ∀ (f k : Nat), k ≤ B.length → (allN B f k).length + k ≤ B.length
  | 0, k, h => by simpa [allN] using h
  | f + 1, k, h => by
    rw [allN]
    cases hn : nextF B k with
    | none => simpa using h
    | some i =>
      obtain ⟨a, b, c, _⟩ := nextF_some hn
      obtain ⟨d, _⟩ := ok_len B i (by omega) c
      have := allN_len B f (endF B i) d
      have := endF_gt B i
      simp only [List.length_cons]
      omega
theorem allF_len (B : List Int) : (allF B).length ≤ B.length := by have := allN_len B (B.length + 1) 0 (Nat.zero_le _); unfold allF; omega

attribute [local go_sem] Oper.semAt_some
set_option maxHeartbeats 8000000 in
set_option maxRecDepth 100000 in
theorem Lost_any (A : Option Addr) (c : Nat) (B : List Int) (w : World) (hC : Kd.C (Kd.int .u8) w A B.length B) (h8 : is8 B) (hBl : B.length ≤ 1000000000) (hc : B.length ≤ c) (hg : HG w) :
    Calls Tryd.prog 24 #[.slice A B.length c] w fun e w' => ∃ v, e = .returned v ∧ RowV w' w.heap.size 51 2 v (lostF B).length (flatP (lostF B)) ∧ Below w.heap.size w w' := by
  obtain ⟨b3, hb3⟩ : ∃ b3, b3 = w.heap.size := ⟨_, rfl⟩
  obtain ⟨w0, hw0⟩ : ∃ w0, w0 = w.alloc (boxP (.slice none 0 0)) := ⟨_, rfl⟩
  obtain ⟨b4, hb4⟩ : ∃ b4, b4 = w0.heap.size := ⟨_, rfl⟩
  obtain ⟨w1, hw1⟩ : ∃ w1, w1 = w0.alloc (boxN 0) := ⟨_, rfl⟩
  obtain ⟨w4, hw4⟩ : ∃ w4, w4 = w1.alloc (byteBox A B.length c) := ⟨_, rfl⟩
  obtain ⟨bx, hbx⟩ : ∃ bx, bx = w1.heap.size := ⟨_, rfl⟩
  have hsz0 : w0.heap.size = w.heap.size + 1 := by rw [hw0]; simp
  have hsz1 : w1.heap.size = w0.heap.size + 1 := by rw [hw1]; simp
  have hsz4 : w4.heap.size = w1.heap.size + 1 := by rw [hw4]; simp
  have hB4 : Below w.heap.size w w4 := by rw [hw4, hw1, hw0]; exact below_alloc (below_alloc (below_alloc (Below.refl _ _) _) _) _
  have HK3 : Aside0 (w4.heap[b3]? = some (boxP (.slice none 0 0))) := ⟨by rw [hw4, hw1, hb3]; exact blk_alloc' (blk_alloc' (by rw [hw0]; exact World.alloc_heap_new w _) _) _⟩
  have HK4 : Aside0 (w4.heap[b4]? = some (boxN 0)) := ⟨by rw [hw4, hb4]; exact blk_alloc' (by rw [hw1]; exact World.alloc_heap_new w0 _) _⟩
  have HKX : Aside0 (w4.heap[bx]? = some (byteBox A B.length c)) := ⟨by rw [hw4, hbx]; exact World.alloc_heap_new w1 _⟩
  have hst := all_stops 4 bx A c B (fun k => w.heap.size ≤ k ∧ k ≠ bx) w w4 HKX.out hC h8 hBl hc hg hB4 (fun k hk => hk)
  have HST := Aside0.mk hst
  have HB4 := Aside0.mk hB4
  have HN3 : Aside0 (b3 = w.heap.size ∧ b4 = w.heap.size + 1 ∧ b3 ≠ bx ∧ b4 ≠ bx ∧ b3 < w4.heap.size ∧ b4 < w4.heap.size ∧ bx < w4.heap.size) := ⟨by omega⟩
  have HW0 := Aside0.mk hw0
  have HW1 := Aside0.mk hw1
  have HW4 := Aside0.mk hw4
  have HBX := Aside0.mk hbx
  have HB3 := Aside0.mk hb3
  have HB4' := Aside0.mk hb4
  have HAL := Aside0.mk (allF_len B)
  clear hst hB4 hw0 hw1 hw4 hsz0 hsz1 hsz4 hC h8 hg hb3 hb4 hbx
  refine (callsIn_wide (n := 5)).1 ?_
  refine callsIn_of_wp_marks Tryd.func24 rfl trivial ?_ rfl
  simp only [Tryd.ntmps24, List.size_toArray, List.length_cons, List.length_nil, Nat.reduceAdd, Nat.reduceSub, Array.replicate_succ, Array.replicate_zero, List.push_toArray, List.append_toArray, List.nil_append, List.cons_append]
  refine wpIn_wide.2 ?_
  go_wp2_with fail
  have he4 : b4 = b3 + 1 := by have := HN3.out; omega
  have HE1 : Aside0 ((w.alloc (.cells #[.slice none 0 0] 41)).alloc (.cells #[.int .i64 0] 3) = w1) := ⟨by rw [HW1.out, HW0.out]; rfl⟩
  rw [HE1.out, ← HB3.out, ← he4]
  clear he4
  refine (all_any A B.length c w1).mono ?_
  rintro e w2 ⟨rfl, hw2⟩
  rw [← HW4.out] at hw2
  obtain rfl := hw2.symm
  rw [← HBX.out]
  go_wp2_with fail
  refine (wpIn_wide (n := 5)).1 ?_
  refine wpIn_rangeFunc_ownG rfl (by omega) (gf := 58) (lb := #[.pointer (some ⟨bx, 0, none⟩)]) rfl trivial (enters_of Tryd.func58 (by kernel_rfl) rfl)
    HST.out (fun h k => h.trans k) ?hKb (Below.refl w4.heap.size w4) (fun _ => rfl)
    (fun pre W => (Below w.heap.size w W ∧ w4.heap.size ≤ W.heap.size) ∧ W.heap[b4]? = some (boxN (lostL pre).1) ∧ ∃ v, W.heap[b3]? = some (boxP v) ∧ RowV W w4.heap.size 51 2 v (lostL pre).2.length (flatP (lostL pre).2))
    (fun _ _ _ => False) ?hI (fun _ _ _ _ _ hs _ _ => hs) ⟨⟨HB4.out, Nat.le_refl _⟩, HK4.out, .slice none 0 0, HK3.out, World.ownsRow_nil w4 w4.heap.size _ _⟩
    (fun x => { tmps := #[.slice A B.length c, undef, .slice none 0 0, .pointer (some ⟨b3, 0, none⟩), .pointer (some ⟨b4, 0, none⟩), .int .i64 (x.1 : Int), .int .i64 (x.2 : Int), .slice A B.length c, seqA bx, .int .i64 (x.1 : Int), .int .i64 (x.2 : Int), undef, undef, undef, undef, undef, undef, undef, undef, undef, undef, undef, undef, undef, undef, undef, undef, undef, undef, undef, undef, undef, undef], defers := [] })
    ?assign ?body ?done ?stop
  case hKb =>
    intro W l o o' hl ho hc _
    exact (Fr.refl _ _).grown (grownBy_putObj' W l o') (fun k _ e => by cases e; have := HN3.out; exact ⟨by have := HB4.out.size; omega, by omega⟩)
  case hI =>
    rintro s X Y row ⟨⟨hb, hs4⟩, h4, v, h3, hr⟩ hg hrow
    refine ⟨⟨hb.grown hg hb.size (fun k e => by have := (hrow k e).1; have := HB4.out.size; omega), Nat.le_trans hs4 hg.size⟩, own_cells (β := Unit) w4.heap.size b4 _ _ _ () X Y row h4 hg hrow, v, own_cells (β := Unit) w4.heap.size b3 _ _ _ () X Y row h3 hg hrow, RowV.own (β := Unit) w4.heap.size _ _ _ _ _ _ () X Y row hr hg hrow⟩
  case assign =>
    intro l x W K hK
    gi_wp2
    exact hK
  case body =>
    rintro l pre ⟨xi, xe⟩ W ⟨⟨hb, hs4⟩, h4, v, h3, hr⟩ hlen
    have HSN := Aside0.mk (lostL_snoc pre (xi, xe))
    have HLE := Aside0.mk (lostL_le pre)
    dsimp only at HSN
    dsimp only
    obtain ⟨⟨a, out⟩, hlo⟩ : ∃ s, lostL pre = s := ⟨_, rfl⟩
    rw [hlo] at h4 hr HSN HLE
    dsimp only at h4 hr HSN HLE
    have c4 := cell_of_one h4
    have c3 := cell_of_one h3
    by_cases hlt : a < xi
    · have d1 : decide ((a : Int) < (xi : Int)) = true := by simp; omega
      rw [if_pos hlt] at HSN
      have hr1 := hr.below (below_alloc (Below.refl _ _) (.cells #[.int .i64 (a : Int), .int .i64 (xi : Int)] 51 (0, 0)))
      obtain ⟨v1, w2, hrun, hr2, hg2⟩ := rowP_append (W.alloc (.cells #[.int .i64 (a : Int), .int .i64 (xi : Int)] 51 (0, 0))) w4.heap.size v _ a xi W.heap.size hr1 (World.alloc_heap_new W _) (by have := HLE.out; omega) (by simp; omega)
      generalize hnl : (out ++ [(a, xi)]).length = n1 at hr2
      obtain ⟨A1, c1, rfl⟩ := hr2.slice
      have h31 := blk_alloc' h3 (.cells #[.int .i64 (a : Int), .int .i64 (xi : Int)] 51 (0, 0))
      have h41 := blk_alloc' h4 (.cells #[.int .i64 (a : Int), .int .i64 (xi : Int)] 51 (0, 0))
      have h32 : w2.heap[b3]? = some (boxP v) := (hg2.block _ (lt_of_block h31) (fun e => by have := (hr.block b3 e.symm).2; have := HN3.out; omega)).trans h31
      have h42 : w2.heap[b4]? = some (boxN a) := (hg2.block _ (lt_of_block h41) (fun e => by have := (hr.block b4 e.symm).2; have := HN3.out; omega)).trans h41
      have h43 : (w2.setCell ⟨b3, 0, none⟩ (.slice A1 n1 c1)).heap[b4]? = some (boxN a) := by rw [heap_setCell_other _ _ _ _ (show b4 ≠ b3 by have := HN3.out; omega)]; exact h42
      have h33 : (w2.setCell ⟨b3, 0, none⟩ (.slice A1 n1 c1)).heap[b3]? = some (boxP (.slice A1 n1 c1)) := by rw [heap_setCell_same _ _ _ _ _ _ h32]; rfl
      have c32 := cell_of_one h32
      have f32 : w2.frozen? ⟨b3, 0, none⟩ = false := blk_frozen h32 0
      have c43 := cell_of_one h43
      have f43 : (w2.setCell ⟨b3, 0, none⟩ (.slice A1 n1 c1)).frozen? ⟨b4, 0, none⟩ = false := blk_frozen h43 0
      have hfr : Fr (fun k => k = b3 ∨ k = b4 ∨ v.ownBlock = some k) W ((w2.setCell ⟨b3, 0, none⟩ (.slice A1 n1 c1)).setCell ⟨b4, 0, none⟩ (.int .i64 (xe : Int))) := Fr.setCell (Fr.setCell ((Fr.below (below_alloc (Below.refl _ _) _) _).grown hg2 (fun k _ e => .inr (.inr e))) (p := ⟨b3, 0, none⟩) (fun _ => .inl rfl) _) (p := ⟨b4, 0, none⟩) (fun _ => .inr (.inl rfl)) _
      have HFR := Aside0.mk hfr
      have HR := Aside0.mk hr
      have HR2 := Aside0.mk hr2
      have H3 := Aside0.mk h3
      have H4 := Aside0.mk h4
      have H32 := Aside0.mk h32
      have H33 := Aside0.mk h33
      have H43 := Aside0.mk h43
      have HB := Aside0.mk hb
      have HS4 := Aside0.mk hs4
      have HRUN := Aside0.mk hrun
      clear hr1 hr hrun hr2 hg2 h31 h32 h3 hfr hb h41 h42 h43 h33 h4
      gi_wp2_with (gi_at_builtin; refine wpListIn_run_append rfl _ _ _ rfl _ _ rfl rfl HRUN.out ?_)
      have hT : ∀ k, (k = b3 ∨ k = b4 ∨ v.ownBlock = some k) → w.heap.size ≤ k ∧ k ≠ bx := fun k hk => by
        have := HN3.out
        have := HB4.out.size
        rcases hk with rfl | rfl | q
        · exact ⟨by omega, by omega⟩
        · exact ⟨by omega, by omega⟩
        · have := (HR.out.block k q).2
          exact ⟨by omega, by omega⟩
      refine ⟨HFR.out.keepsFrom (fun k hk o ho => ?_), HFR.out.mono (fun k _ hk => hT k hk), ⟨HB.out.trans (HFR.out.to_below HB.out.size (fun k hk => (hT k hk).1)), Nat.le_trans HS4.out HFR.out.size⟩, ?_, .slice A1 n1 c1, ?_, ?_⟩
      · rcases hk with rfl | rfl | q
        · rw [H3.out] at ho; cases ho; rfl
        · rw [H4.out] at ho; cases ho; rfl
        · obtain ⟨⟨cs, hc⟩, _⟩ := HR.out.block k q
          rw [hc] at ho; cases ho; rfl
      · rw [HSN.out, heap_setCell_same _ _ _ _ _ _ H43.out]; rfl
      · rw [heap_setCell_other _ _ _ _ (show b3 ≠ b4 by have := HN3.out; omega)]; exact H33.out
      · rw [HSN.out]
        dsimp only
        rw [hnl]
        refine RowV.fr HR2.out (T := fun k => k = b3 ∨ k = b4) (Fr.setCell (Fr.setCell (Fr.refl _ _) (p := ⟨b3, 0, none⟩) (fun _ => .inl rfl) _) (p := ⟨b4, 0, none⟩) (fun _ => .inr rfl) _) (fun k cs hk _ he => ?_)
        rcases hk with rfl | rfl
        · rw [H32.out] at he; cases he
        · have := H43.out
          rw [heap_setCell_other _ _ _ _ (show k ≠ b3 by have := HN3.out; omega), he] at this
          cases this
    · have d1 : decide ((a : Int) < (xi : Int)) = false := by simp; omega
      rw [if_neg hlt] at HSN
      have f4 : W.frozen? ⟨b4, 0, none⟩ = false := blk_frozen h4 0
      have hfr : Fr (fun k => k = b4) W (W.setCell ⟨b4, 0, none⟩ (.int .i64 (xe : Int))) := Fr.setCell (S := fun k => k = b4) (Fr.refl _ _) (p := ⟨b4, 0, none⟩) (fun _ => rfl) _
      have HFR := Aside0.mk hfr
      have HR := Aside0.mk hr
      have H3 := Aside0.mk h3
      have H4 := Aside0.mk h4
      have HB := Aside0.mk hb
      have HS4 := Aside0.mk hs4
      clear hr h3 hfr hb h4
      gi_wp2
      have hT : ∀ k, k = b4 → w.heap.size ≤ k ∧ k ≠ bx := fun k hk => by
        have := HN3.out
        subst hk
        exact ⟨by omega, by omega⟩
      refine ⟨HFR.out.keepsFrom (fun k hk o ho => ?_), HFR.out.mono (fun k _ hk => hT k hk), ⟨HB.out.trans (HFR.out.to_below HB.out.size (fun k hk => (hT k hk).1)), Nat.le_trans HS4.out HFR.out.size⟩, ?_, v, ?_, ?_⟩
      · subst hk
        rw [H4.out] at ho; cases ho; rfl
      · rw [HSN.out, heap_setCell_same _ _ _ _ _ _ H4.out]; rfl
      · rw [heap_setCell_other _ _ _ _ (show b3 ≠ b4 by have := HN3.out; omega)]; exact H3.out
      · rw [HSN.out]
        dsimp only
        refine RowV.fr HR.out HFR.out (fun k cs hk _ he => ?_)
        subst hk
        rw [H4.out] at he; cases he
  case done =>
    rintro D ys W hD rfl ⟨⟨hb, hs4⟩, h4, v, h3, hr⟩ hK
    have hfD : Fr (fun k => k = D) W (W.putObj D (.deferred none)) := (Fr.refl _ _).grown (grownBy_putObj' W D (.deferred none)) (fun k _ e => by cases e; rfl)
    have HLE := Aside0.mk (lostL_le (allF B))
    have HLF : Aside0 (lostF B = if (lostL (allF B)).1 < B.length then (lostL (allF B)).2 ++ [((lostL (allF B)).1, B.length)] else (lostL (allF B)).2) := ⟨rfl⟩
    obtain ⟨⟨a, out⟩, hlo⟩ : ∃ s, lostL (allF B) = s := ⟨_, rfl⟩
    rw [hlo] at h4 hr HLE HLF
    dsimp only at h4 hr HLE HLF
    have c4 := cell_of_one h4
    have c3 := cell_of_one h3
    (try simp only [Exit.inBlock, Exit.then])
    by_cases hlt : a < B.length
    · have d1 : decide ((a : Int) < (B.length : Int)) = true := by simp; omega
      rw [if_pos hlt] at HLF
      have hr1 := hr.below (below_alloc (Below.refl _ _) (.cells #[.int .i64 (a : Int), .int .i64 (B.length : Int)] 51 (0, 0)))
      obtain ⟨v1, w2, hrun, hr2, hg2⟩ := rowP_append (W.alloc (.cells #[.int .i64 (a : Int), .int .i64 (B.length : Int)] 51 (0, 0))) w4.heap.size v _ a B.length W.heap.size hr1 (World.alloc_heap_new W _) (by have := HLE.out; have := HAL.out; omega) (by simp; omega)
      generalize hnl : (out ++ [(a, B.length)]).length = n1 at hr2
      obtain ⟨A1, c1, rfl⟩ := hr2.slice
      have h31 := blk_alloc' h3 (.cells #[.int .i64 (a : Int), .int .i64 (B.length : Int)] 51 (0, 0))
      have h32 : w2.heap[b3]? = some (boxP v) := (hg2.block _ (lt_of_block h31) (fun e => by have := (hr.block b3 e.symm).2; have := HN3.out; omega)).trans h31
      have h33 : (w2.setCell ⟨b3, 0, none⟩ (.slice A1 n1 c1)).heap[b3]? = some (boxP (.slice A1 n1 c1)) := by rw [heap_setCell_same _ _ _ _ _ _ h32]; rfl
      have c32 := cell_of_one h32
      have c33 := cell_of_one h33
      have f32 : w2.frozen? ⟨b3, 0, none⟩ = false := blk_frozen h32 0
      have hK1 := blk_alloc' hK (.cells #[.int .i64 (a : Int), .int .i64 (B.length : Int)] 51 (0, 0))
      have hK2 : w2.heap[D]? = some (.deferred (some [])) := (hg2.block _ (lt_of_block hK1) (fun e => by obtain ⟨⟨cs, hc⟩, _⟩ := hr.block D e.symm; rw [hK] at hc; cases hc)).trans hK1
      have hK3 : (w2.setCell ⟨b3, 0, none⟩ (.slice A1 n1 c1)).heap[D]? = some (.deferred (some [])) := by rw [heap_setCell_other _ _ _ _ (show D ≠ b3 by have := HN3.out; omega)]; exact hK2
      have hfr : Fr (fun k => k = b3 ∨ k = D ∨ v.ownBlock = some k) W ((w2.setCell ⟨b3, 0, none⟩ (.slice A1 n1 c1)).putObj D (.deferred none)) := (Fr.setCell ((Fr.below (below_alloc (Below.refl _ _) _) _).grown hg2 (fun k _ e => .inr (.inr e))) (p := ⟨b3, 0, none⟩) (fun _ => .inl rfl) _).grown (grownBy_putObj' _ D (.deferred none)) (fun k _ e => by cases e; exact .inr (.inl rfl))
      have hfD2 : Fr (fun k => k = b3 ∨ k = D) w2 ((w2.setCell ⟨b3, 0, none⟩ (.slice A1 n1 c1)).putObj D (.deferred none)) := (Fr.setCell (Fr.refl _ _) (p := ⟨b3, 0, none⟩) (fun _ => .inl rfl) _).grown (grownBy_putObj' _ D (.deferred none)) (fun k _ e => by cases e; exact .inr rfl)
      have HFR := Aside0.mk hfr
      have HFD := Aside0.mk hfD2
      have HR := Aside0.mk hr
      have HR2 := Aside0.mk hr2
      have H32 := Aside0.mk h32
      have HB := Aside0.mk hb
      have HKW := Aside0.mk hK2
      have HK := Aside0.mk hK3
      have HRUN := Aside0.mk hrun
      clear hr1 hr hrun hr2 hg2 h31 h32 h33 h3 h4 hfr hb hK hK1 hK2 hK3 hfD hfD2
      go_wp2_with (at_builtin; refine wpList_run_append rfl _ _ _ rfl _ _ rfl rfl HRUN.out ?_)
      refine ⟨by simp, .inl ⟨_, _, rfl, run_takeDeferred HK.out, ?_⟩⟩
      refine ⟨_, results_tmp rfl _ _ _, _, rfl, ?_, HB.out.trans (HFR.out.to_below HB.out.size (fun k hk => by
        have := HN3.out
        have := HB4.out.size
        rcases hk with rfl | rfl | q
        · omega
        · omega
        · have := (HR.out.block k q).2
          omega))⟩
      have hrow : RowV w2 w.heap.size 51 2 (.slice A1 n1 c1) (lostF B).length (flatP (lostF B)) := by
        rw [HLF.out, hnl]
        have h := HR2.out
        refine ⟨h.1, ?_⟩
        rcases h.2 with hn | ⟨g, cap, cur, hv, hb, hg, rest⟩
        · exact .inl hn
        · exact .inr ⟨g, cap, cur, hv, Nat.le_trans HB4.out.size hb, hg, rest⟩
      refine hrow.fr HFD.out (fun k cs hk _ he => ?_)
      rcases hk with rfl | rfl
      · rw [H32.out] at he; cases he
      · rw [HKW.out] at he; cases he
    · have d1 : decide ((a : Int) < (B.length : Int)) = false := by simp; omega
      rw [if_neg hlt] at HLF
      have HR := Aside0.mk hr
      have HB := Aside0.mk hb
      have HK := Aside0.mk hK
      have HFD := Aside0.mk hfD
      clear h3 h4 hr hb hK hfD
      go_wp2_with fail
      refine ⟨by simp, .inl ⟨_, _, rfl, run_takeDeferred HK.out, ?_⟩⟩
      refine ⟨_, results_tmp rfl _ _ _, _, rfl, ?_, HB.out.trans (HFD.out.to_below HB.out.size (fun k hk => by subst hk; have := HB4.out.size; omega))⟩
      have hrow : RowV W w.heap.size 51 2 v (lostF B).length (flatP (lostF B)) := by
        rw [HLF.out]
        have h := HR.out
        refine ⟨h.1, ?_⟩
        rcases h.2 with hn | ⟨g, cap, cur, rfl, hb, hg, rest⟩
        · exact .inl hn
        · exact .inr ⟨g, cap, cur, rfl, Nat.le_trans HB4.out.size hb, hg, rest⟩
      refine hrow.fr HFD.out (fun k cs hk _ he => ?_)
      subst hk
      rw [HK.out] at he
      cases he
  case stop =>
    rintro D c pre W _ _ h _
    exact h.elim
end
end Go.Proofs.YtnaklnehichhpaaDoor.P
