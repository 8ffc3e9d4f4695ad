/- The contract of frame.All. -/
import Derived.Test.YtnaklnehichhpaaDoorKl
import Derived.Test.YtnaklnehichhpaaDoorKe
import Derived.Test.YtnaklnehichhpaaDoorKf
namespace Go.Proofs.YtnaklnehichhpaaDoor.P
open Go.RowKit Go.Shelf Go.Proofs.YtnaklnehichhpaaDoor.Bits Go.Proofs.YtnaklnehichhpaaDoorW.PrintWords Go.Proofs.YtnaklnehichhpaaDoorW.PrintLast Go.Proofs.YtnaklnehichhpaaDoorW.PrintMore
set_option linter.unusedVariables false
set_option linter.unusedSimpArgs false

theorem iinfo : (Tryd.prog.info? 3).map (fun i => (i.zero, i.size, i.bytes)) = some (some (.int .i64 0), 1, 8) := by kernel_rfl
def flatI (l : List Int) : List Value := l.map fun x => .int .i64 x
/-- A row of one's own, in memory made from base on, as values. -/
abbrev RowV (w : World) (base : Nat) (e : TypeId) (sz : Nat) (v : Value) (n : Nat) (fl : List Value) : Prop := w.ownsRow base e sz v n fl
theorem RowV.fr {w w' : World} {base : Nat} {e : TypeId} {sz : Nat} {v : Value} {n : Nat} {fl : List Value} {T : Nat → Prop} (h : RowV w base e sz v n fl) (hf : Fr T w w') (hT : ∀ k cs, T k → k < w.heap.size → w.heap[k]? ≠ some (.cells cs e (0, 0))) : RowV w' base e sz v n fl := by
  refine ⟨h.1, ?_⟩
  rcases h.2 with hn | ⟨g, cap, cur, rfl, hb, hg, rest⟩
  · exact .inl hn
  · exact .inr ⟨g, cap, cur, rfl, hb, blk_fr hg hf (fun ht => hT g cur ht (lt_of_block hg) hg), rest⟩
theorem RowV.below {w w' : World} {base : Nat} {e : TypeId} {sz : Nat} {v : Value} {n : Nat} {fl : List Value} (h : RowV w base e sz v n fl) (hb : Below w.heap.size w w') : RowV w' base e sz v n fl :=
  h.fr (Fr.below hb (fun _ => False)) (fun _ _ hk => hk.elim)
theorem RowV.block {w : World} {base : Nat} {e : TypeId} {sz : Nat} {v : Value} {n : Nat} {fl : List Value} (h : RowV w base e sz v n fl) (j : Nat) (hj : v.ownBlock = some j) : (∃ cs, w.heap[j]? = some (.cells cs e (0, 0))) ∧ base ≤ j := by
  rcases h.2 with ⟨rfl, hn⟩ | ⟨g, cap, cur, rfl, hb, hg, rest⟩
  · simp [Value.ownBlock] at hj
  · simp [Value.ownBlock] at hj
    subst hj
    exact ⟨⟨cur, hg⟩, hb⟩
theorem RowV.slice {w : World} {base : Nat} {e : TypeId} {sz : Nat} {v : Value} {n : Nat} {fl : List Value} (h : RowV w base e sz v n fl) : ∃ A c, v = .slice A n c := by
  rcases h.2 with ⟨rfl, hn⟩ | ⟨g, cap, cur, rfl, hb, hg, rest⟩
  · have h0 : n = 0 := hn
    subst h0
    exact ⟨none, 0, rfl⟩
  · exact ⟨_, _, rfl⟩
theorem RowV.own {β : Type} (B base : Nat) (e : TypeId) (sz : Nat) (v : Value) (n : Nat) (fl : List Value) : OwnFrom B (fun (_ : β) W => RowV W base e sz v n fl) := fun s X Y row hs hg hr =>
  RowV.fr hs (T := fun k => row = some k) ((Fr.refl _ _).grown hg (fun k _ e => e)) (fun k cs hk hl he => by
    obtain ⟨_, o, ho, hc⟩ := hr k hk
    rw [he] at ho
    cases ho
    cases hc)
theorem rowI_append (W : World) (base : Nat) (v : Value) (l : List Int) (x : Int) (g : Nat) (h : RowV W base 3 1 v l.length (flatI l)) (hg : W.heap[g]? = some (.cells #[.int .i64 x] 3 (0, 0))) (hl : l.length ≤ 1000000001) (hb : base ≤ W.heap.size) :
    ∃ v1 w1, (Builtin.append_ #[38, 38] 38 #[v, .slice (some ⟨g, 0, none⟩) 1 1]).run Tryd.prog W = .ok v1 w1 ∧ RowV w1 base 3 1 v1 (l ++ [x]).length (flatI (l ++ [x])) ∧ W.grownBy w1 v.ownBlock := by
  obtain ⟨i0, hi, hzz⟩ := Option.map_eq_some_iff.1 iinfo
  simp only [Prod.mk.injEq] at hzz
  obtain ⟨hz0, hz1, hz2⟩ := hzz
  obtain ⟨v1, w1, hr, h2, h3, _, _⟩ := run_append_own_at (P := Tryd.prog) W base 38 38 3 i0 _ 1 8 Tryd.underlying38 hi hz0 hz1 hz2 rfl (by omega) v l.length (flatI l) h ⟨g, 0, none⟩ 1 1 [.int .i64 x] (by simp)
    (fun j u hu => by
      rw [show (⟨g, 0, none⟩ : Addr).add j = ⟨g, j, none⟩ by simp [Addr.add_lit], cell_of_row W g j #[.int .i64 x] _ (0, 0) hg]
      simpa using hu)
    (by intro u hu; simp at hu; subst hu; rfl) (by simp only [maxLen]; omega) (by omega) hb
  refine ⟨v1, w1, hr, ?_, h3⟩
  have e : flatI (l ++ [x]) = flatI l ++ [.int .i64 x] := by simp [flatI]
  rw [e, List.length_append]
  exact h2
abbrev boxI (v : Value) : Obj := .cells #[v] 38 (0, 0)
def placesF (B : List Int) : List Int := (allF B).map fun x => (x.1 : Int)

attribute [local go_sem] Oper.semAt_some
set_option maxHeartbeats 4000000 in
set_option maxRecDepth 100000 in
theorem All_any (A : Option Addr) (c : Nat) (B : List Int) (w : World) (hC : Kd.C (Kd.int .u8) w A B.length B) (h8 : is8 B) (hBl : B.length ≤ 1000000000) (hc : B.length ≤ c) (hg : HG w) :
    Calls Tryd.prog 21 #[.slice A B.length c] w fun e w' => ∃ v, e = .returned v ∧ RowV w' w.heap.size 3 1 v (placesF B).length (flatI (placesF B)) ∧ Below w.heap.size w w' := by
  obtain ⟨b3, hb3⟩ : ∃ b3, b3 = w.heap.size := ⟨_, rfl⟩
  obtain ⟨w1, hw1⟩ : ∃ w1, w1 = w.alloc (boxI (.slice none 0 0)) := ⟨_, rfl⟩
  obtain ⟨w4, hw4⟩ : ∃ w4, w4 = w1.alloc (byteBox A B.length c) := ⟨_, rfl⟩
  obtain ⟨bx, hbx⟩ : ∃ bx, bx = w1.heap.size := ⟨_, rfl⟩
  have hsz1 : w1.heap.size = w.heap.size + 1 := by rw [hw1]; simp
  have hsz4 : w4.heap.size = w1.heap.size + 1 := by rw [hw4]; simp
  have hB4 : Below w.heap.size w w4 := by rw [hw4, hw1]; exact below_alloc (below_alloc (Below.refl _ _) _) _
  have HK3 : Aside0 (w4.heap[b3]? = some (boxI (.slice none 0 0))) := ⟨by rw [hw4, hb3]; exact blk_alloc' (by rw [hw1]; exact World.alloc_heap_new w _) _⟩
  have HKX : Aside0 (w4.heap[bx]? = some (byteBox A B.length c)) := ⟨by rw [hw4, hbx]; exact World.alloc_heap_new w1 _⟩
  have hst := all_stops 4 bx A c B (fun k => w.heap.size ≤ k ∧ k ≠ bx) w w4 HKX.out hC h8 hBl hc hg hB4 (fun k hk => hk)
  have HST := Aside0.mk hst
  have HB4 := Aside0.mk hB4
  have HN3 : Aside0 (b3 = w.heap.size ∧ b3 ≠ bx ∧ b3 < w4.heap.size ∧ bx < w4.heap.size) := ⟨by omega⟩
  have HW1 := Aside0.mk hw1
  have HW4 := Aside0.mk hw4
  have HBX := Aside0.mk hbx
  have HB3 := Aside0.mk hb3
  clear hst hB4 hw1 hw4 hsz1 hsz4 hC h8 hg hb3 hbx
  refine (callsIn_wide (n := 5)).1 ?_
  refine callsIn_of_wp_marks Tryd.func21 rfl trivial ?_ rfl
  simp only [Tryd.ntmps21, List.size_toArray, List.length_cons, List.length_nil, Nat.reduceAdd, Nat.reduceSub, Array.replicate_succ, Array.replicate_zero, List.push_toArray, List.append_toArray, List.nil_append, List.cons_append]
  refine wpIn_wide.2 ?_
  go_wp2_with fail
  rw [← HW1.out, ← HB3.out]
  refine (all_any A B.length c w1).mono ?_
  rintro e w2 ⟨rfl, hw2⟩
  rw [← HW4.out] at hw2
  obtain rfl := hw2.symm
  rw [← HBX.out]
  go_wp2_with fail
  refine (wpIn_wide (n := 5)).1 ?_
  refine wpIn_rangeFunc_ownG rfl (by omega) (gf := 58) (lb := #[.pointer (some ⟨bx, 0, none⟩)]) rfl trivial (enters_of Tryd.func58 (by kernel_rfl) rfl)
    HST.out (fun h k => h.trans k) ?hKb (Below.refl w4.heap.size w4) (fun _ => rfl)
    (fun pre W => (Below w.heap.size w W ∧ w4.heap.size ≤ W.heap.size) ∧ ∃ v, W.heap[b3]? = some (boxI v) ∧ RowV W w4.heap.size 3 1 v (pre.map fun x => ((x.1 : Nat) : Int)).length (flatI (pre.map fun x => ((x.1 : Nat) : Int))))
    (fun _ _ _ => False) ?hI (fun _ _ _ _ _ hs _ _ => hs) ⟨⟨HB4.out, Nat.le_refl _⟩, .slice none 0 0, HK3.out, World.ownsRow_nil w4 w4.heap.size _ _⟩
    (fun x => { tmps := #[.slice A B.length c, undef, .slice none 0 0, .pointer (some ⟨b3, 0, none⟩), .int .i64 (x.1 : Int), .slice A B.length c, seqA bx, .int .i64 (x.1 : Int), .int .i64 (x.2 : Int), undef, undef, undef, undef, undef], defers := [] })
    ?assign ?body ?done ?stop
  case hKb =>
    intro W l o o' hl ho hc _
    exact (Fr.refl _ _).grown (grownBy_putObj' W l o') (fun k _ e => by cases e; have := HN3.out; exact ⟨by have := HB4.out.size; omega, by omega⟩)
  case hI =>
    rintro s X Y row ⟨⟨hb, hs4⟩, v, h3, hr⟩ hg hrow
    refine ⟨⟨hb.grown hg hb.size (fun k e => by have := (hrow k e).1; have := HB4.out.size; omega), Nat.le_trans hs4 hg.size⟩, v, own_cells (β := Unit) w4.heap.size b3 _ _ _ () X Y row h3 hg hrow, RowV.own (β := Unit) w4.heap.size _ _ _ _ _ _ () X Y row hr hg hrow⟩
  case assign =>
    intro l x W K hK
    gi_wp2
    exact hK
  case body =>
    rintro l pre x W ⟨⟨hb, hs4⟩, v, h3, hr⟩ hlen
    have c3 := cell_of_one h3
    have hr1 := hr.below (below_alloc (Below.refl _ _) (.cells #[.int .i64 (x.1 : Int)] 3 (0, 0)))
    obtain ⟨v1, w2, hrun, hr2, hg2⟩ := rowI_append (W.alloc (.cells #[.int .i64 (x.1 : Int)] 3 (0, 0))) w4.heap.size v _ (x.1 : Int) W.heap.size hr1 (World.alloc_heap_new W _) (by simp; omega) (by simp; omega)
    generalize hnl : (pre.map (fun x : Nat × Nat => ((x.1 : Nat) : Int)) ++ [(x.1 : Int)]).length = n1 at hr2
    obtain ⟨A1, c1, rfl⟩ := hr2.slice
    have h31 := blk_alloc' h3 (.cells #[.int .i64 (x.1 : Int)] 3 (0, 0))
    have h32 : w2.heap[b3]? = some (boxI v) := (hg2.block _ (lt_of_block h31) (fun e => by have := (hr.block b3 e.symm).2; have := HN3.out; omega)).trans h31
    have c32 := cell_of_one h32
    have f32 : w2.frozen? ⟨b3, 0, none⟩ = false := blk_frozen h32 0
    have hfr : Fr (fun k => k = b3 ∨ v.ownBlock = some k) W (w2.setCell ⟨b3, 0, none⟩ (.slice A1 n1 c1)) := Fr.setCell ((Fr.below (below_alloc (Below.refl _ _) _) _).grown hg2 (fun k _ e => .inr e)) (p := ⟨b3, 0, none⟩) (fun _ => .inl rfl) _
    have HFR := Aside0.mk hfr
    have HR := Aside0.mk hr
    have HR2 := Aside0.mk hr2
    have H3 := Aside0.mk h3
    have H32 := Aside0.mk h32
    have HB := Aside0.mk hb
    have HS4 := Aside0.mk hs4
    have HRUN := Aside0.mk hrun
    clear hr1 hr hrun hr2 hg2 h31 h32 h3 hfr hb
    gi_wp2_with (gi_at_builtin; refine wpListIn_run_append rfl _ _ _ rfl _ _ rfl rfl HRUN.out ?_)
    refine ⟨HFR.out.keepsFrom (fun k hk o ho => ?_), HFR.out.mono (fun k _ hk => ?_), ⟨HB.out.trans (HFR.out.to_below HB.out.size (fun k hk => ?_)), Nat.le_trans HS4.out HFR.out.size⟩, .slice A1 n1 c1, ?_, ?_⟩
    · rcases hk with rfl | q
      · rw [H3.out] at ho; cases ho; rfl
      · obtain ⟨⟨cs, hc⟩, _⟩ := HR.out.block k q
        rw [hc] at ho; cases ho; rfl
    · have := HN3.out
      have := HB4.out.size
      rcases hk with rfl | q
      · exact ⟨by omega, by omega⟩
      · have := (HR.out.block k q).2
        exact ⟨by omega, by omega⟩
    · have := HN3.out
      have := HB4.out.size
      rcases hk with rfl | q
      · omega
      · have := (HR.out.block k q).2
        omega
    · rw [heap_setCell_same _ _ _ _ _ _ H32.out]; rfl
    · have e : (pre ++ [x]).map (fun x : Nat × Nat => ((x.1 : Nat) : Int)) = pre.map (fun x => ((x.1 : Nat) : Int)) ++ [(x.1 : Int)] := by simp
      rw [e, hnl]
      refine RowV.fr HR2.out (T := fun k => k = b3) (Fr.setCell (S := fun k => k = b3) (Fr.refl _ _) (p := ⟨b3, 0, none⟩) (fun _ => rfl) _) (fun k cs hk _ he => ?_)
      subst hk
      rw [H32.out] at he
      cases he
  case done =>
    rintro D ys W hD rfl ⟨⟨hb, hs4⟩, v, h3, hr⟩ hK
    have c3 := cell_of_one h3
    have HR := Aside0.mk hr
    have HB := Aside0.mk hb
    have HK := Aside0.mk hK
    clear h3 hr hb hK
    (try simp only [Exit.inBlock, Exit.then])
    go_wp2_with fail
    refine ⟨by simp, .inl ⟨_, _, rfl, run_takeDeferred HK.out, ?_⟩⟩
    have hfD : Fr (fun k => k = D) W (W.putObj D (.deferred none)) := (Fr.refl _ _).grown (grownBy_putObj' W D (.deferred none)) (fun k _ e => by cases e; rfl)
    refine ⟨_, results_tmp rfl _ _ _, _, rfl, ?_, HB.out.trans (hfD.to_below HB.out.size (fun k hk => by subst hk; have := HB4.out.size; omega))⟩
    have hrow : RowV W w.heap.size 3 1 v (placesF B).length (flatI (placesF B)) := by
      have h := HR.out
      refine ⟨h.1, ?_⟩
      rcases h.2 with hn | ⟨g, cap, cur, rfl, hb, hg, rest⟩
      · exact .inl hn
      · exact .inr ⟨g, cap, cur, rfl, Nat.le_trans HB4.out.size hb, hg, rest⟩
    refine hrow.fr hfD (fun k cs hk _ he => ?_)
    subst hk
    rw [HK.out] at he
    cases he
  case stop =>
    rintro D c pre W _ _ h _
    exact h.elim
end Go.Proofs.YtnaklnehichhpaaDoor.P
