/- Rows of fields of one's own. The contracts of slices.Clone and slices.Delete of fields. The contract of tag.Set. -/
import Derived.Laws.OwnMore
import Derived.Lib.SliceRun
import Derived.Test.YthlmnnjbpikijaaDoorZTr15
import Derived.Test.YthlmnnjbpikijaaDoorZTr16
section
namespace Go.Proofs.YthlmnnjbpikijaaDoor.P
open Go.RowKit Go.Shelf Go.Proofs.YthlmnnjbpikijaaDoor.Bits Go.Proofs.YthlmnnjbpikijaaDoorW.PrintWords Go.Proofs.YthlmnnjbpikijaaDoorW.PrintLast Go.Proofs.YthlmnnjbpikijaaDoorW.PrintMore
set_option linter.unusedVariables false
set_option linter.unusedSimpArgs false
attribute [local go_sem ↓] Go.wp_at_zero Go.wp_at_succ
def flatE (l : List S56) : List Value := l.flatMap fun x => [.string x.f0, .string x.f1]
theorem flatE_append (l m : List S56) : flatE (l ++ m) = flatE l ++ flatE m := by simp [flatE]
theorem flatE_length (l : List S56) : (flatE l).length = l.length * 2 := by
  unfold flatE
  induction l with
  | nil => rfl
  | cons x l ih => rw [List.flatMap_cons, List.length_append, ih, List.length_cons]; simp; omega
theorem flatE_get : ∀ (l : List S56) (j : Nat), j < l.length → (flatE l)[2 * j]? = some (.string (nth l j).f0) ∧ (flatE l)[2 * j + 1]? = some (.string (nth l j).f1)
  | x :: l, 0, _ => ⟨rfl, rfl⟩
  | x :: l, j + 1, h => by
    have ih := flatE_get l j (by simpa using h)
    have e : flatE (x :: l) = .string x.f0 :: .string x.f1 :: flatE l := rfl
    rw [e, show 2 * (j + 1) = (2 * j + 1) + 1 by omega]
    simpa [nth] using ih
theorem flatE_one (l : List S56) (u : Value) (h : u ∈ flatE l) : u.oneCell' = true := by
  unfold flatE at h
  obtain ⟨x, _, hx⟩ := List.mem_flatMap.1 h
  simp at hx
  rcases hx with rfl | rfl <;> rfl
/-- The cells of a row of fields, from the field i on. -/
theorem FD.cells {w : World} {ad : Addr} {c : Nat} {l : List S56} (h : FD w (some ad) c l) (j : Nat) (u : Value) (hu : (flatE l)[j]? = some u) : w.cell? (ad.add j) = some u := by
  have hj : j < (flatE l).length := by
    rcases Nat.lt_or_ge j (flatE l).length with h | h
    · exact h
    · rw [List.getElem?_eq_none h] at hu; cases hu
  rw [flatE_length] at hj
  obtain ⟨ad', e, h0, h1⟩ := at_T56 h.C ((j / 2 : Nat) : Int) (by omega) (by omega)
  cases e
  rw [Int.toNat_natCast] at h0 h1
  obtain ⟨g0, g1⟩ := flatE_get l (j / 2) (by omega)
  rcases Nat.mod_two_eq_zero_or_one j with hm | hm
  · rw [show 2 * (j / 2) = j by omega, hu] at g0
    rw [show j / 2 * 2 = j by omega] at h0
    rw [h0, g0]
    rfl
  · rw [show 2 * (j / 2) + 1 = j by omega, hu] at g1
    have e2 : (⟨(ad.add (j / 2 * 2)).block, (ad.add (j / 2 * 2)).off + 1, none⟩ : Addr) = ad.add j := by
      rw [← add_field _ _ 1 (by omega), show j / 2 * 2 + 1 = j by omega]
    rw [e2] at h1
    rw [h1, g1]
    rfl
/-- A row of fields in memory of one's own, made from base on. -/
abbrev RowE (w : World) (base : Nat) (v : Value) (l : List S56) : Prop := RowV w base 56 2 v l.length (flatE l)
theorem RowE.fd {w : World} {base : Nat} {v : Value} {l : List S56} (h : RowE w base v l) (hl : l.length ≤ 1000000000) : ∃ A c, v = .slice A l.length c ∧ FD w A c l := by
  rcases h.2 with ⟨rfl, hn⟩ | ⟨g, cap, cur, rfl, hb, hg, hc, hm, hs, ht⟩
  · refine ⟨none, 0, by rw [hn], ⟨hn ▸ rfl, by omega, fun h0 => by omega⟩, by omega, by omega⟩
  · refine ⟨some ⟨g, 0, none⟩, cap, rfl, ⟨rfl, by omega, fun _ => ⟨_, rfl, fun j p hp => ?_⟩⟩, hc, hl⟩
    have hj : j < l.length := by
      rcases Nat.lt_or_ge j l.length with h | h
      · exact h
      · rw [List.getElem?_eq_none h] at hp; cases hp
    obtain ⟨g0, g1⟩ := flatE_get l j hj
    have hp' : nth l j = p := by unfold nth; rw [List.getD_eq_getElem?_getD, hp]; rfl
    rw [hp', ← ht] at g0 g1
    refine ⟨[.string p.f0, .string p.f1], rfl, k56_mk w p, fun k u hu => ?_⟩
    have cc : ∀ m v, (cur.toList.take (l.length * 2))[m]? = some v → w.cell? ⟨g, m, none⟩ = some v := fun m v hv => by
      rw [cell_of_row _ _ _ _ _ _ hg]
      rw [List.getElem?_take] at hv
      split at hv
      · simpa using hv
      · cases hv
    have e : ((⟨g, 0, none⟩ : Addr).add (j * 2 + k)) = ⟨g, j * 2 + k, none⟩ := by simp [Addr.add_lit]
    show w.cell? ((⟨g, 0, none⟩ : Addr).add (j * 2 + k)) = some u
    rw [e]
    match k, hu with
    | 0, hu => cases hu; exact cc (j * 2 + 0) _ (by rw [show j * 2 + 0 = 2 * j by omega]; exact g0)
    | 1, hu => cases hu; exact cc (j * 2 + 1) _ (by rw [show j * 2 + 1 = 2 * j + 1 by omega]; exact g1)
    | k + 2, hu => simp at hu
theorem RowE.below {w w' : World} {base : Nat} {v : Value} {l : List S56} (h : RowE w base v l) (hb : Below w.heap.size w w') : RowE w' base v l := RowV.below h hb
/-- Fields appended to a row of one's own. -/
theorem rowE_append (W : World) (base : Nat) (v : Value) (l m : List S56) (ad : Addr) (c : Nat) (h : RowE W base v l) (hm : FD W (some ad) c m) (hl : l.length + m.length ≤ 1000000000) (hb : base ≤ W.heap.size) (n : Nat) (hn : n = m.length) :
    ∃ v1 w1, (Builtin.append_ #[22, 22] 22 #[v, .slice (some ad) n c]).run Tryd.prog W = .ok v1 w1 ∧ RowE w1 base v1 (l ++ m) ∧ W.grownBy w1 v.ownBlock := by
  subst hn
  obtain ⟨i0, hi, hzz⟩ := Option.map_eq_some_iff.1 info56
  simp only [Prod.mk.injEq] at hzz
  obtain ⟨hz0, hz1, hz2⟩ := hzz
  obtain ⟨v1, w1, hr, h2, h3, _, _⟩ := run_append_own_at (P := Tryd.prog) W base 22 22 56 i0 _ 2 32 Tryd.underlying22 hi hz0 hz1 hz2 rfl (by omega) v l.length (flatE l) h ad m.length c (flatE m) (flatE_length m)
    (fun j u hu => hm.cells j u hu) (flatE_one m) (by simp only [maxLen]; omega) (by omega) hb
  refine ⟨v1, w1, hr, ?_, h3⟩
  show RowV _ _ _ _ _ _ _
  rw [flatE_append, List.length_append]
  exact h2
set_option maxHeartbeats 400000 in
theorem CloneE_any (A : Option Addr) (c : Nat) (l : List S56) (w : World) (h : FD w A c l) :
    Calls Tryd.prog 51 #[.slice A l.length c] w fun e w' => ∃ v, e = .returned v ∧ RowE w' w.heap.size v l ∧ Below w.heap.size w w' := by
  have qT : ∀ (w : World) (a : Option Addr) (n c n' c' : Nat), (binOp .eql 22 (.slice a n c) (.slice none n' c')).run Tryd.prog w = .ok (.bool a.isNone) w := fun w a n c n' c' => Lib.run_eql_slice_nil w _ _ a n c n' c' Tryd.underlying22
  cases A with
  | none =>
    have hz : l = [] := by
      rcases Nat.eq_zero_or_pos l.length with h0 | h0
      · exact List.eq_nil_of_length_eq_zero h0
      · obtain ⟨ad, e, _⟩ := at_T56 h.C 0 (by omega) (by omega)
        cases e
    subst hz
    go_enter Tryd.func51, Tryd.ntmps51
    go_wp2
    go_ret
    exact ⟨_, rfl, World.ownsRow_nil w w.heap.size _ _, Below.refl _ _⟩
  | some ad =>
    obtain ⟨w1, hw1⟩ : ∃ w1, w1 = w.alloc (.cells #[] 56 (0, 0)) := ⟨_, rfl⟩
    have hb1 : Below w.heap.size w w1 := by rw [hw1]; exact below_alloc (Below.refl _ _) _
    have hr1 : RowE w1 w.heap.size (.slice (some ⟨w.heap.size, 0, none⟩) 0 0) [] := ⟨rfl, .inr ⟨w.heap.size, 0, #[], rfl, Nat.le_refl _, by rw [hw1]; exact World.alloc_heap_new w _, Nat.le_refl _, Nat.zero_le _, rfl, rfl⟩⟩
    obtain ⟨v2, w2, hrun, hr2, hg2⟩ := rowE_append w1 w.heap.size _ [] l ad c hr1 (h.below hb1) (by have := h.len; simpa using this) hb1.size _ rfl
    have hb2 : Below w.heap.size w w2 := hb1.grown hg2 hb1.size (fun k e => by cases e; exact Nat.le_refl _)
    rw [hw1] at hrun
    have HRUN := Aside0.mk hrun
    have HR2 := Aside0.mk hr2
    have HB2 := Aside0.mk hb2
    clear hb1 hr1 hrun hr2 hg2 hw1 hb2 h
    go_enter Tryd.func51, Tryd.ntmps51
    go_wp2_with (at_builtin; refine wpList_run_append rfl _ _ _ rfl _ _ rfl rfl HRUN.out ?_)
    go_ret
    exact ⟨_, rfl, HR2.out, HB2.out⟩
/-- A row of one's own, and a longer one at the same place: its beginning, and the cells behind. -/
theorem RowE.part {w : World} {base g n cap : Nat} {P R : List S56} (hn : n = P.length) (h : RowE w base (.slice (some ⟨g, 0, none⟩) (P ++ R).length cap) (P ++ R)) : RowE w base (.slice (some ⟨g, 0, none⟩) n cap) P := by
  subst hn
  rcases h.2 with ⟨hv, _⟩ | ⟨g', cap', cur, hv, hb, hg, hc, hm, hs, ht⟩
  · cases hv
  · cases hv
    refine ⟨flatE_length P, .inr ⟨g, cap, cur, rfl, hb, hg, by rw [List.length_append] at hc; omega, hm, hs, ?_⟩⟩
    have e : (cur.toList.take ((P ++ R).length * 2)).take (P.length * 2) = flatE P := by
      rw [ht, flatE_append, ← flatE_length P, List.take_left]
    rw [← e, List.take_take]
    congr 1
    rw [List.length_append]
    omega
theorem RowE.cellAt {w : World} {base g n cap : Nat} {L : List S56} (h : RowE w base (.slice (some ⟨g, 0, none⟩) n cap) L) (j : Nat) (u : Value) (hu : (flatE L)[j]? = some u) : w.cell? ⟨g, j, none⟩ = some u := by
  rcases h.2 with ⟨hv, _⟩ | ⟨g', cap', cur, hv, hb, hg, hc, hm, hs, ht⟩
  · cases hv
  · cases hv
    rw [← ht, List.getElem?_take] at hu
    rw [cell_of_row _ _ _ _ _ _ hg]
    split at hu
    · simpa using hu
    · cases hu
theorem zero56 (W : World) : (zeroValue 56).run Tryd.prog W = .ok (.agg #[.string ⟨#[]⟩, .string ⟨#[]⟩]) W := by kernel_rfl
set_option maxRecDepth 100000 in
theorem clear_one (W : World) (ty : TypeId) (g m c : Nat) (cur : Array Value) (t : TypeId) (hg : W.heap[g]? = some (.cells cur t (0, 0))) (hm : m + 1 < cur.size) :
    ∃ W2, (Builtin.clear_ #[22] ty #[.slice (some ⟨g, m, none⟩) 1 c]).run Tryd.prog W = .ok (.tuple #[]) W2 ∧ W2.heap[g]? = some (.cells ((cur.setIfInBounds m (.string ⟨#[]⟩)).setIfInBounds (m + 1) (.string ⟨#[]⟩)) t (0, 0)) ∧ Fr (fun k => k = g) W W2 := by
  have hst := run_storeCells_cells (P := Tryd.prog) g m [.string ⟨#[]⟩, .string ⟨#[]⟩] 0 W (fun j hj => by
    rw [cell_of_row _ _ _ _ _ _ hg]
    have : j < 2 := by simpa using hj
    rw [Array.getElem?_eq_getElem (by omega)]
    rfl) (fun j hj => blk_frozen hg _) (by intro v hv; simp at hv; subst hv; rfl)
  have h1 := heap_setCell_same W g m _ _ (.string ⟨#[]⟩) hg
  have h2 := heap_setCell_same _ g (m + 1) _ _ (.string ⟨#[]⟩) h1
  refine ⟨_, ?_, h2, Fr.setCell (S := fun k => k = g) (Fr.setCell (S := fun k => k = g) (Fr.refl _ _) (p := ⟨g, m, none⟩) (fun _ => rfl) _) (p := ⟨g, m + 1, none⟩) (fun _ => rfl) _⟩
  have hz : (Builtin.zeroCells (Value.agg #[.string ⟨#[]⟩, .string ⟨#[]⟩]).cells 1).toList = [Value.string ⟨#[]⟩, .string ⟨#[]⟩] := by kernel_rfl
  have hst2 : (storeCells ⟨g, m, none⟩ [.string ⟨#[]⟩, .string ⟨#[]⟩]).run Tryd.prog W = .ok () ((W.setCell ⟨g, m, none⟩ (.string ⟨#[]⟩)).setCell ⟨g, m + 1, none⟩ (.string ⟨#[]⟩)) := hst
  simp only [Builtin.clear_, Sem.run_bind, run_underlying Tryd.underlying22, Result.andThen_ok, zero56]
  simp
  show ((storeCells ⟨g, m, none⟩ (Builtin.zeroCells (Value.agg #[.string ⟨#[]⟩, .string ⟨#[]⟩]).cells 1).toList).run Tryd.prog W).andThen _ = _
  rw [hz, hst2]
  rfl
set_option maxHeartbeats 2000000 in
set_option maxRecDepth 100000 in
theorem DeleteE_any (base g cap i j n : Nat) (P Q : List S56) (x : S56) (w : World) (h : RowE w base (.slice (some ⟨g, 0, none⟩) n cap) (P ++ x :: Q)) (hn : n = (P ++ x :: Q).length) (hi : i = P.length) (hj : j = i + 1) (hl : n ≤ 1000) :
    Calls Tryd.prog 52 #[.slice (some ⟨g, 0, none⟩) n cap, .int .i64 (i : Int), .int .i64 (j : Int)] w fun e w' => ∃ v, e = .returned v ∧ RowE w' base v (P ++ Q) ∧ Fr (fun k => k = g) w w' := by
  obtain ⟨q, hq⟩ : ∃ q, q = Q.length := ⟨_, rfl⟩
  obtain ⟨r, hr⟩ : ∃ r, r = i + q := ⟨_, rfl⟩
  have hl2 : n = i + (q + 1) := by rw [hn, List.length_append, List.length_cons, hi, hq]
  have hp : RowE w base (.slice (some ⟨g, 0, none⟩) i cap) P := RowE.part hi (by rw [← hn]; exact h)
  have hcap : n ≤ cap ∧ cap ≤ 9223372036854775807 := by
    rcases h.2 with ⟨hv, _⟩ | ⟨g', cap', cur, hv, hb, hg, hc, hm, hs, ht⟩
    · cases hv
    · cases hv; exact ⟨by rw [← hn] at hc; exact hc, hm⟩
  have hcells : ∀ (m : Nat) (u : Value), (flatE Q)[m]? = some u → w.cell? ((⟨g, j * 2, none⟩ : Addr).add m) = some u := fun m u hu => by
    have e : ((⟨g, j * 2, none⟩ : Addr).add m) = ⟨g, j * 2 + m, none⟩ := by simp [Addr.add_lit]
    rw [e]
    refine h.cellAt _ _ ?_
    rw [show P ++ x :: Q = (P ++ [x]) ++ Q by simp, flatE_append, List.getElem?_append_right (by rw [flatE_length, List.length_append, List.length_singleton]; omega), flatE_length, List.length_append, List.length_singleton, show j * 2 + m - (P.length + 1) * 2 = m by omega]
    exact hu
  obtain ⟨i0, hi0, hzz⟩ := Option.map_eq_some_iff.1 info56
  simp only [Prod.mk.injEq] at hzz
  have hfit : ∀ ad : Addr, (q = 0 ∨ ad = ⟨g, j * 2, none⟩) → ∃ w1, (Builtin.append_ #[22, 22] 22 #[.slice (some ⟨g, 0, none⟩) i cap, .slice (some ad) (n - j) (cap - j)]).run Tryd.prog w.drew = .ok (.slice (some ⟨g, 0, none⟩) r cap) w1 ∧
      w1.ownsRow base 56 2 (.slice (some ⟨g, 0, none⟩) r cap) r (flatE P ++ flatE Q) ∧ w.drew.grownBy w1 (some g) := fun ad had => by
    rw [show n - j = q by omega, hr]
    exact run_append_fits (P := Tryd.prog) w.drew base 22 22 56 i0 2 Tryd.underlying22 hi0 hzz.2.1 g i cap (flatE P) (by rw [hi]; have := hp; rw [hi] at this; exact this) ad q (cap - j) (flatE Q) (by rw [flatE_length, hq]) (by
      rcases had with h0 | rfl
      · intro j u hu
        have : Q = [] := List.eq_nil_of_length_eq_zero (by rw [← hq]; exact h0)
        subst this
        simp [flatE] at hu
      · exact hcells) (flatE_one Q) (by omega)
  have key : ∀ w1 : World, w1.ownsRow base 56 2 (.slice (some ⟨g, 0, none⟩) r cap) r (flatE P ++ flatE Q) → w.drew.grownBy w1 (some g) →
      ∃ w2, (∀ ty, (Builtin.clear_ #[22] ty #[.slice (some ⟨g, r * 2, none⟩) (n - r) (cap - r)]).run Tryd.prog w1 = .ok (.tuple #[]) w2) ∧ RowE w2 base (.slice (some ⟨g, 0, none⟩) r cap) (P ++ Q) ∧ Fr (fun k => k = g) w w2 := fun w1 hr1 hg1 => by
    rw [show n - r = 1 by omega]
    have hlpq : (P ++ Q).length = r := by rw [List.length_append]; omega
    rcases hr1.2 with ⟨hv, _⟩ | ⟨g', cap', cur, hv, hb, hg, hc, hm, hs, ht⟩
    · cases hv
    · cases hv
      obtain ⟨w2, hrun2, hb2, hf2⟩ := clear_one w1 0 g (r * 2) (cap - r) cur _ hg (by omega)
      have hru : ∀ ty, (Builtin.clear_ #[22] ty #[.slice (some ⟨g, r * 2, none⟩) 1 (cap - r)]).run Tryd.prog w1 = .ok (.tuple #[]) w2 := fun _ => hrun2
      refine ⟨w2, hru, ⟨flatE_length _, .inr ⟨g, cap, _, by rw [hlpq], hb, hb2, by rw [hlpq]; exact hc, hm, by simpa using hs, ?_⟩⟩, ((Fr.refl _ w).drew.grown hg1 (fun k _ e => by cases e; rfl)).trans hf2⟩
      rw [flatE_append, ← ht, hlpq]
      simp only [Array.toList_setIfInBounds]
      rw [List.take_set_of_le (by omega), List.take_set_of_le (by omega)]
  have HFIT := Aside0.mk hfit
  have HKEY := Aside0.mk key
  obtain ⟨hc1, hc2⟩ := hcap
  have b1 : (0 : Int) ≤ (i : Int) := by omega
  have b2 : (i : Int) ≤ (cap : Int) := by omega
  have b3 : (0 : Int) ≤ (j : Int) := by omega
  have b4 : (j : Int) ≤ (n : Int) := by omega
  have b5 : (0 : Int) ≤ (r : Int) := by omega
  have b6 : (r : Int) ≤ (n : Int) := by omega
  have b7 : (n : Int) ≤ (cap : Int) := by omega
  have b8 : (i : Int) ≤ (j : Int) := by omega
  have b0 : (0 : Int) ≤ (n : Int) := by omega
  have ne1 : ¬ n = i := by omega
  have ne2 : ¬ cap = 0 := by omega
  have ne3 : ¬ cap = r := by omega
  have ne4 : ¬ (i : Int) = (j : Int) := by omega
  have ne5 : ¬ i = j := by omega
  have hcq : cap = j → q = 0 := by omega
  have HCQ := Aside0.mk hcq
  clear hfit key hq hr hl2 hp hcells hi0 hzz h hn hi hj hl hcq
  go_enter Tryd.func52, Tryd.ntmps52
  go_wp2_with fail
  by_cases hcj : cap = j
  · subst hcj
    obtain ⟨w1, hrun, hr1, hg1⟩ := HFIT.out ⟨g, 0, none⟩ (.inl (HCQ.out rfl))
    rw [show n - cap = 0 by omega, Nat.sub_self] at hrun
    have HRUN := Aside0.mk hrun
    obtain ⟨w2, hcl, hr2, hf2⟩ := HKEY.out w1 hr1 hg1
    have HR2 := Aside0.mk hr2
    have HF2 := Aside0.mk hf2
    clear hrun hr1 hg1 hr2 hf2
    go_region_held3 (fun w' => True)
      (first | trivial | go_keep)
      ((refine step_run_append (by rfl) _ _ _ (by rfl) _ _ (by rfl) (by rfl) HRUN.out ?_))
    go_wp2_with fail
    go_ret
    exact ⟨_, rfl, HR2.out, HF2.out⟩
  · obtain ⟨w1, hrun, hr1, hg1⟩ := HFIT.out ⟨g, j * 2, none⟩ (.inr rfl)
    have HRUN := Aside0.mk hrun
    obtain ⟨w2, hcl, hr2, hf2⟩ := HKEY.out w1 hr1 hg1
    have HR2 := Aside0.mk hr2
    have HF2 := Aside0.mk hf2
    clear hrun hr1 hg1 hr2 hf2
    go_region_held3 (fun w' => True)
      (first | trivial | go_keep)
      ((refine step_run_append (by rfl) _ _ _ (by rfl) _ _ (by rfl) (by rfl) HRUN.out ?_))
    go_wp2_with fail
    go_ret
    exact ⟨_, rfl, HR2.out, HF2.out⟩
end Go.Proofs.YthlmnnjbpikijaaDoor.P
end
section
namespace Go.Proofs.YthlmnnjbpikijaaDoor.P
open Go.RowKit Go.Shelf Go.Proofs.YthlmnnjbpikijaaDoor.Bits Go.Proofs.YthlmnnjbpikijaaDoorW.PrintWords Go.Proofs.YthlmnnjbpikijaaDoorW.PrintLast Go.Proofs.YthlmnnjbpikijaaDoorW.PrintMore
set_option linter.unusedVariables false
set_option linter.unusedSimpArgs false
attribute [local go_sem ↓] Go.wp_at_zero Go.wp_at_succ
def fSet (t : TG) (k tx : ByteArray) : TG × Int :=
  if okT t = true then
    if keyOk k = true ∧ tx.size ≤ 1000 then
      match seekK k t.fs 0 with
      | none => if tx.size = 0 then (TG0, 5) else if t.fs.length = 32 then (TG0, 2) else (⟨t.skip, t.cut, t.fs ++ [⟨k, tx⟩]⟩, 0)
      | some i => if tx.size = 0 then (⟨t.skip, t.cut, t.fs.take i ++ t.fs.drop (i + 1)⟩, 0) else (⟨t.skip, t.cut, t.fs.take i ++ ⟨k, tx⟩ :: t.fs.drop (i + 1)⟩, 0)
    else (TG0, 4)
  else (TG0, 1)
def SetPost (w : World) (r : TG × Int) (e : Ending) (w' : World) : Prop :=
  ∃ v, e = .returned (.tuple #[.agg #[.int .i64 r.1.skip, .int .i64 r.1.cut, v], .int .i64 r.2]) ∧ RowE w' w.heap.size v r.1.fs ∧ Below w.heap.size w w'
abbrev keyObj' (k : ByteArray) : Obj := .cells #[.int .u8 (kb k 0), .int .u8 (kb k 1), .int .u8 (kb k 2), .int .u8 (kb k 3)] 77 (0, 0)
abbrev tag0 : Obj := .cells #[.int .i64 0, .int .i64 0, .slice none 0 0] 24 (0, 0)
theorem flatE_set (tx : ByteArray) : ∀ (l : List S56) (i : Nat), i < l.length → (flatE l).set (i * 2 + 1) (.string tx) = flatE (l.take i ++ ⟨(nth l i).f0, tx⟩ :: l.drop (i + 1))
  | x :: l, 0, _ => rfl
  | x :: l, i + 1, h => by
    have ih := flatE_set tx l i (by simpa using h)
    have e : flatE (x :: l) = .string x.f0 :: .string x.f1 :: flatE l := rfl
    rw [e, show (i + 1) * 2 + 1 = (i * 2 + 1) + 1 + 1 by omega, List.set_cons_succ, List.set_cons_succ, ih]
    rfl
theorem split_nth (l : List S56) (i : Nat) (h : i < l.length) : l = l.take i ++ nth l i :: l.drop (i + 1) := by
  have e : nth l i = l[i] := by unfold nth; rw [List.getD_eq_getElem?_getD, List.getElem?_eq_getElem h]; rfl
  rw [e, ← List.drop_eq_getElem_cons h, List.take_append_drop]
theorem rowE_set {w : World} {base g n cap : Nat} {l : List S56} (h : RowE w base (.slice (some ⟨g, 0, none⟩) n cap) l) (hn : n = l.length) (i : Nat) (hi : i < l.length) (tx : ByteArray) :
    RowE (w.setCell ⟨g, i * 2 + 1, none⟩ (.string tx)) base (.slice (some ⟨g, 0, none⟩) n cap) (l.take i ++ ⟨(nth l i).f0, tx⟩ :: l.drop (i + 1)) := by
  have hlen : (l.take i ++ (⟨(nth l i).f0, tx⟩ : S56) :: l.drop (i + 1)).length = l.length := by simp; omega
  rcases h.2 with ⟨hv, _⟩ | ⟨g', cap', cur, hv, hb, hg, hc, hm, hs, ht⟩
  · cases hv
  · cases hv
    refine ⟨flatE_length _, .inr ⟨g, cap, _, by rw [hlen, hn], hb, heap_setCell_same _ _ _ _ _ _ hg, by rw [hlen]; exact hc, hm, by simpa using hs, ?_⟩⟩
    rw [hlen, ← flatE_set tx l i hi, ← ht, Array.toList_setIfInBounds, List.take_set]
theorem rowE_some {w : World} {base : Nat} {A : Option Addr} {n c : Nat} {l : List S56} (h : RowE w base (.slice A n c) l) (hn : n = l.length) (hl : 0 < l.length) : ∃ g, A = some ⟨g, 0, none⟩ ∧ base ≤ g ∧ (∃ cur, w.heap[g]? = some (.cells cur 56 (0, 0))) := by
  rcases h.2 with ⟨hv, h0⟩ | ⟨g', cap', cur, hv, hb, hg, hc, hm, hs, ht⟩
  · omega
  · cases hv; exact ⟨g', rfl, hb, cur, hg⟩
set_option maxHeartbeats 8000000 in
set_option maxRecDepth 100000 in
theorem Set_any (t : TG) (A : Option Addr) (c : Nat) (k tx : ByteArray) (w : World) (h : FD w A c t.fs) :
    Calls Tryd.prog 27 #[tagV t.skip t.cut A t.fs.length c, .string k, .string tx] w (SetPost w (fSet t k tx)) := by
  obtain ⟨s, u, l⟩ := t
  dsimp only at *
  obtain ⟨w1, hw1⟩ : ∃ w1, w1 = (w.alloc (tagObj s u A l.length c)).alloc tag0 := ⟨_, rfl⟩
  have hb1 : Below w.heap.size w w1 := by rw [hw1]; exact below_alloc (below_alloc (Below.refl _ _) _) _
  have hx1 : w1.heap[w.heap.size]? = some (tagObj s u A l.length c) := by rw [hw1]; exact blk_alloc' (World.alloc_heap_new w _) _
  have hy1 : w1.heap[w.heap.size + 1]? = some tag0 := by rw [hw1]; have := World.alloc_heap_new (w.alloc (tagObj s u A l.length c)) tag0; simpa using this
  have hck := Check_any ⟨s, u, l⟩ A c w1 (h.below hb1)
  dsimp only at hck
  have HF := Aside0.mk h
  have HB1 := Aside0.mk hb1
  have HX1 := Aside0.mk hx1
  have HY1 := Aside0.mk hy1
  have HW1 := Aside0.mk hw1
  obtain ⟨r, hr⟩ : ∃ r, fSet ⟨s, u, l⟩ k tx = r := ⟨_, rfl⟩
  rw [hr]
  obtain ⟨b3, hb3⟩ : ∃ b3, b3 = w.heap.size := ⟨_, rfl⟩
  have z0 : w1.cell? ⟨w.heap.size, 0, none⟩ = some (.int .i64 s) := by rw [cell_of_row _ _ _ _ _ _ hx1]; rfl
  have z1 : w1.cell? ⟨w.heap.size, 1, none⟩ = some (.int .i64 u) := by rw [cell_of_row _ _ _ _ _ _ hx1]; rfl
  have z2 : w1.cell? ⟨w.heap.size, 2, none⟩ = some (.slice A l.length c) := by rw [cell_of_row _ _ _ _ _ _ hx1]; rfl
  clear hb1 hx1 hy1 h hb3
  have fin0 : ∀ (W : World) (e : Int), Below w.heap.size w W → W.heap[w.heap.size + 1]? = some tag0 → r = (TG0, e) → SetPost w r (.returned (.tuple #[.agg #[.int .i64 0, .int .i64 0, .slice none 0 0], .int .i64 e])) (W.setRow (w.heap.size + 1) #[.int .i64 0, .int .i64 0, .slice none 0 0]) := fun W e hb hy hr => by
    subst hr
    refine ⟨.slice none 0 0, rfl, World.ownsRow_nil _ w.heap.size _ _, hb.trans ((fr_setRow W _ _).to_below hb.size (fun j hj => by subst hj; omega))⟩
  have HFIN0 := Aside0.mk fin0
  have fin1 : ∀ (W : World) (v : Value) (fs : List S56), Below w.heap.size w W → W.heap[w.heap.size + 1]? = some tag0 → RowE W w.heap.size v fs → r = (⟨s, u, fs⟩, 0) → SetPost w r (.returned (.tuple #[.agg #[.int .i64 s, .int .i64 u, v], .int .i64 0])) (W.setRow (w.heap.size + 1) #[.int .i64 s, .int .i64 u, v]) := fun W v fs hb hy hv hr => by
    subst hr
    exact ⟨v, rfl, RowV.fr hv (fr_setRow W _ _) (fun j cs hj _ he => by subst hj; rw [hy] at he; cases he), hb.trans ((fr_setRow W _ _).to_below hb.size (fun j hj => by subst hj; omega))⟩
  have HFIN1 := Aside0.mk fin1
  clear fin0
  by_cases ho : okT ⟨s, u, l⟩ = true
  · rw [if_pos ho] at hck
    obtain ⟨hfs, h32, -, -⟩ := okT_fs ho
    dsimp only at hfs h32
    have HCK := Aside0.mk hck
    have HFS := Aside0.mk hfs
    have hr1 := hr
    unfold fSet at hr1
    rw [if_pos ho] at hr1
    have HR := Aside0.mk hr1
    clear hr ho hck hfs hr1 hw1
    go_enter Tryd.func27, Tryd.ntmps27
    go_wp2_with fail
    rw [← HW1.out]
    refine HCK.out.mono ?_
    rintro e w2 ⟨rfl, hb2⟩
    have HB2 := Aside0.mk (HB1.out.trans (hb2.mono HB1.out.size))
    have HX2 := Aside0.mk (blk_fr HX1.out (Fr.below hb2 (fun _ => False)) (fun h => h))
    have HY2 := Aside0.mk (blk_fr HY1.out (Fr.below hb2 (fun _ => False)) (fun h => h))
    clear hb2 HCK z0 z1 z2 HX1 HY1
    go_wp2_with fail
    refine (keyOf_any k w2).mono ?_
    rintro e w3 ⟨rfl, hb3⟩
    have hB3 := HB2.out.trans (hb3.mono HB2.out.size)
    have hX3 := blk_fr HX2.out (Fr.below hb3 (fun _ => False)) (fun h => h)
    have hY3 := blk_fr HY2.out (Fr.below hb3 (fun _ => False)) (fun h => h)
    have hsz3 := lt_of_block hY3
    obtain ⟨w4, hw4⟩ : ∃ w4, w4 = w3.alloc (keyObj' k) := ⟨_, rfl⟩
    have HB4 : Aside0 (Below w.heap.size w w4) := ⟨by rw [hw4]; exact below_alloc hB3 _⟩
    have HX4 : Aside0 (w4.heap[w.heap.size]? = some (tagObj s u A l.length c)) := ⟨by rw [hw4]; exact blk_alloc' hX3 _⟩
    have HY4 : Aside0 (w4.heap[w.heap.size + 1]? = some tag0) := ⟨by rw [hw4]; exact blk_alloc' hY3 _⟩
    have HK4 : Aside0 (w4.heap[w3.heap.size]? = some (keyObj' k)) := ⟨by rw [hw4]; exact World.alloc_heap_new w3 _⟩
    have HW4 := Aside0.mk hw4
    have z2 : (w3.alloc (keyObj' k)).cell? ⟨w.heap.size, 2, none⟩ = some (.slice A l.length c) := by rw [← hw4, cell_of_row _ _ _ _ _ _ HX4.out]; rfl
    have HSZ3 : Aside0 (w.heap.size + 1 < w3.heap.size) := ⟨hsz3⟩
    clear hb3 hB3 hX3 hY3 hw4 HX2 HY2 hsz3
    by_cases hkz : keyOk k = true ∧ tx.size ≤ 1000
    · obtain ⟨hk, hz⟩ := hkz
      have hR := HR.out
      rw [if_pos ⟨hk, hz⟩] at hR
      have HR2 := Aside0.mk hR
      have hd : decide ((1000 : Int) < (tx.size : Int)) = false := by simp; omega
      have HP := Aside0.mk (places_any A c l w4 (Kd.C_below HF.out.C HB4.out) HF.out.cap HF.out.len)
      have hsv : seekV k l 0 = seekK k l 0 := seekV_eq (keyOk_size hk) _ _ (good_keys HFS.out)
      have HSV := Aside0.mk hsv
      rw [hk]
      clear hR HR hsv hk hz
      go_wp2_with fail
      rw [← HW4.out]
      refine HP.out.mono ?_
      rintro e w5 ⟨hb5, he⟩
      rw [if_pos HFS.out] at he
      obtain ⟨b, rfl, hm5, -⟩ := he
      have HB5 := Aside0.mk (HB4.out.trans (hb5.mono HB4.out.size))
      have hX5 := blk_fr HX4.out (Fr.below hb5 (fun _ => False)) (fun h => h)
      have HY5 := Aside0.mk (blk_fr HY4.out (Fr.below hb5 (fun _ => False)) (fun h => h))
      have hK5 := blk_fr HK4.out (Fr.below hb5 (fun _ => False)) (fun h => h)
      have y0 : w5.cell? ⟨w3.heap.size, 0, none⟩ = some (.int .u8 (kb k 0)) := by rw [cell_of_row _ _ _ _ _ _ hK5]; rfl
      have y1 : w5.cell? ⟨w3.heap.size, 1, none⟩ = some (.int .u8 (kb k 1)) := by rw [cell_of_row _ _ _ _ _ _ hK5]; rfl
      have y2 : w5.cell? ⟨w3.heap.size, 2, none⟩ = some (.int .u8 (kb k 2)) := by rw [cell_of_row _ _ _ _ _ _ hK5]; rfl
      have y3 : w5.cell? ⟨w3.heap.size, 3, none⟩ = some (.int .u8 (kb k 3)) := by rw [cell_of_row _ _ _ _ _ _ hK5]; rfl
      have x2 : w5.cell? ⟨w.heap.size, 2, none⟩ = some (.slice A l.length c) := by rw [cell_of_row _ _ _ _ _ _ hX5]; rfl
      have HL5 := Aside0.mk (lookup_run k l b w5 hm5)
      have HX5 := Aside0.mk hX5
      have HCL := Aside0.mk (CloneE_any A c l w5 (HF.out.below HB5.out))
      clear hb5 hX5 hK5 hm5 HP z2 hd HX4 HY4 HK4
      go_wp2_with (refine wpList_run_lookup rfl _ _ _ rfl _ _ rfl rfl HL5.out ?_)
      refine HCL.out.mono ?_
      rintro e w6 ⟨v, rfl, hr6, hb6⟩
      have hlen : l.length ≤ 32 := h32
      obtain ⟨A2, c2, rfl, hfd6⟩ := RowE.fd hr6 (by omega)
      have hB6 := HB5.out.trans (hb6.mono HB5.out.size)
      have hX6 := blk_fr HX5.out (Fr.below hb6 (fun _ => False)) (fun h => h)
      have hY6 := blk_fr HY5.out (Fr.below hb6 (fun _ => False)) (fun h => h)
      obtain ⟨w7, hw7⟩ : ∃ w7, w7 = w6.setCell ⟨w.heap.size, 2, none⟩ (.slice A2 l.length c2) := ⟨_, rfl⟩
      have hf7 : Fr (fun k => k = w.heap.size) w6 w7 := by rw [hw7]; exact Fr.setCell (S := fun k => k = w.heap.size) (Fr.refl _ _) (p := ⟨w.heap.size, 2, none⟩) (fun _ => rfl) _
      have hB7 : Below w.heap.size w w7 := hB6.trans (hf7.to_below hB6.size (fun j hj => by subst hj; exact Nat.le_refl _))
      have hX7 : w7.heap[w.heap.size]? = some (tagObj s u A2 l.length c2) := by rw [hw7, heap_setCell_same _ _ _ _ _ _ hX6]; rfl
      have hY7 : w7.heap[w.heap.size + 1]? = some tag0 := (hf7.block _ (lt_of_block hY6) (by omega)).trans hY6
      have hr7 : RowE w7 w5.heap.size (.slice A2 l.length c2) l := RowV.fr hr6 hf7 (fun j cs hj _ he => by subst hj; rw [hX6] at he; cases he)
      have x6 : w6.cell? ⟨w.heap.size, 2, none⟩ = some (.slice A l.length c) := by rw [cell_of_row _ _ _ _ _ _ hX6]; rfl
      have f6 : w6.frozen? ⟨w.heap.size, 2, none⟩ = false := blk_frozen hX6 2
      have HB7 := Aside0.mk hB7
      have HX7 := Aside0.mk hX7
      have HY7 := Aside0.mk hY7
      have HR7 := Aside0.mk hr7
      have HW7 := Aside0.mk hw7
      have HS57 : Aside0 (w5.heap.size ≤ w7.heap.size ∧ w.heap.size + 1 < w5.heap.size) := ⟨Nat.le_trans hb6.size hf7.size, lt_of_block HY5.out⟩
      clear hb6 hB6 hX6 hY6 hf7 hB7 hX7 hY7 hr7 hr6 hfd6 HCL HL5 y0 y1 y2 y3 x2 hw7
      have HY7S : Aside0 ((w6.setCell ⟨w.heap.size, 2, none⟩ (.slice A2 l.length c2)).heap[w.heap.size + 1]? = some tag0) := ⟨by rw [← HW7.out]; exact HY7.out⟩
      have x70 : (w6.setCell ⟨w.heap.size, 2, none⟩ (.slice A2 l.length c2)).cell? ⟨w.heap.size, 0, none⟩ = some (.int .i64 s) := by rw [← HW7.out, cell_of_row _ _ _ _ _ _ HX7.out]; rfl
      have x71 : (w6.setCell ⟨w.heap.size, 2, none⟩ (.slice A2 l.length c2)).cell? ⟨w.heap.size, 1, none⟩ = some (.int .i64 u) := by rw [← HW7.out, cell_of_row _ _ _ _ _ _ HX7.out]; rfl
      have x72 : (w6.setCell ⟨w.heap.size, 2, none⟩ (.slice A2 l.length c2)).cell? ⟨w.heap.size, 2, none⟩ = some (.slice A2 l.length c2) := by rw [← HW7.out, cell_of_row _ _ _ _ _ _ HX7.out]; rfl
      by_cases htx : tx.size = 0
      · have htx2 : tx = ⟨#[]⟩ := by
          apply ByteArray.ext
          exact Array.eq_empty_of_size_eq_zero htx
        subst htx2
        cases hs : seekK k l 0 with
        | none =>
          have hsb : seekB k l = false := by unfold seekB; rw [HSV.out, hs]; rfl
          have HRR : Aside0 (r = (TG0, 5)) := ⟨by have := HR2.out; rw [hs] at this; rw [← this, if_pos htx]⟩
          clear hs htx
          go_wp2_with (refine wpList_store_row rfl _ _ _ rfl (w.heap.size + 1) #[.int .i64 0, .int .i64 0, .slice none 0 0] rfl rfl _ _ HY7S.out (by kernel_rfl) rfl (by kernel_rfl) ?_)
          refine bodyPost_ret (results_ct rfl _ _ (w.heap.size + 1) _ #[.int .i64 0, .int .i64 0, .slice none 0 0] (0, 0) _ rfl (setRow_heap _ _ _ _ _ _ HY7S.out) Tryd.underlying24 rfl (by kernel_rfl)) rfl ?_
          exact HFIN0.out _ 5 (by rw [← HW7.out]; exact HB7.out) HY7S.out HRR.out
        | some i =>
          have hsb : seekB k l = true := by unfold seekB; rw [HSV.out, hs]; rfl
          have hsi : seekI k l = (i : Int) := by unfold seekI; rw [HSV.out, hs]
          obtain ⟨_, hi, _, _⟩ := seekK_some hs
          have hi2 : i < l.length := by omega
          have HRR : Aside0 (r = (⟨s, u, l.take i ++ l.drop (i + 1)⟩, 0)) := ⟨by have := HR2.out; rw [hs] at this; rw [← this]; dsimp only; rw [if_pos htx]⟩
          obtain ⟨g, rfl, hg5, cur, hgc⟩ := rowE_some HR7.out rfl (by omega)
          have hsp := split_nth l i hi2
          have hrs := HR7.out
          rw [hsp] at hrs
          have hdel := DeleteE_any w5.heap.size g c2 i (i + 1) (l.take i ++ nth l i :: l.drop (i + 1)).length (l.take i) (l.drop (i + 1)) (nth l i) w7 hrs rfl (by rw [List.length_take]; omega) rfl (by rw [← hsp]; omega)
          rw [← hsp, show ((i + 1 : Nat) : Int) = (i : Int) + 1 from by omega, HW7.out] at hdel
          have HDEL := Aside0.mk hdel
          have HG : Aside0 (w.heap.size + 1 < g) := ⟨by have := HY5.out; have := lt_of_block this; omega⟩
          have hw1 : wrap64 ((i : Int) + 1) = (i : Int) + 1 := wrap64_id (by omega) (by omega)
          clear hs htx hsp hrs hdel hi hgc hg5
          go_wp2_with fail
          refine HDEL.out.mono ?_
          rintro e w8 ⟨v8, rfl, hr8, hf8⟩
          rw [← HW7.out] at hf8
          have hB8 := HB7.out.trans (hf8.to_below HB7.out.size (fun j hj => by have := HG.out; omega))
          have hX8 := blk_fr HX7.out hf8 (by have := HG.out; omega)
          have hY8 := blk_fr HY7.out hf8 (by have := HG.out; omega)
          have x82 : w8.cell? ⟨w.heap.size, 2, none⟩ = some (.slice (some ⟨g, 0, none⟩) l.length c2) := by rw [cell_of_row _ _ _ _ _ _ hX8]; rfl
          have f8 : w8.frozen? ⟨w.heap.size, 2, none⟩ = false := blk_frozen hX8 2
          obtain ⟨A9, c9, rfl, -⟩ := RowE.fd hr8 (by simp; omega)
          generalize hn9 : (l.take i ++ l.drop (i + 1)).length = n9 at *
          have hf9 : Fr (fun k => k = w.heap.size) w8 (w8.setCell ⟨w.heap.size, 2, none⟩ (.slice A9 n9 c9)) := Fr.setCell (S := fun k => k = w.heap.size) (Fr.refl _ _) (p := ⟨w.heap.size, 2, none⟩) (fun _ => rfl) _
          have hX9 : (w8.setCell ⟨w.heap.size, 2, none⟩ (.slice A9 n9 c9)).heap[w.heap.size]? = some (tagObj s u A9 n9 c9) := by rw [heap_setCell_same _ _ _ _ _ _ hX8]; rfl
          have hY9 : (w8.setCell ⟨w.heap.size, 2, none⟩ (.slice A9 n9 c9)).heap[w.heap.size + 1]? = some tag0 := (hf9.block _ (lt_of_block hY8) (by omega)).trans hY8
          have hr9 := RowV.fr (base := w.heap.size) (hr8.less (by have := HB5.out.size; omega)) hf9 (fun j cs hj _ he => by subst hj; rw [hX8] at he; cases he)
          have hB9 := hB8.trans (hf9.to_below hB8.size (fun j hj => by subst hj; exact Nat.le_refl _))
          have x90 : (w8.setCell ⟨w.heap.size, 2, none⟩ (.slice A9 n9 c9)).cell? ⟨w.heap.size, 0, none⟩ = some (.int .i64 s) := by rw [cell_of_row _ _ _ _ _ _ hX9]; rfl
          have x91 : (w8.setCell ⟨w.heap.size, 2, none⟩ (.slice A9 n9 c9)).cell? ⟨w.heap.size, 1, none⟩ = some (.int .i64 u) := by rw [cell_of_row _ _ _ _ _ _ hX9]; rfl
          have x92 : (w8.setCell ⟨w.heap.size, 2, none⟩ (.slice A9 n9 c9)).cell? ⟨w.heap.size, 2, none⟩ = some (.slice A9 n9 c9) := by rw [cell_of_row _ _ _ _ _ _ hX9]; rfl
          have HY9 := Aside0.mk hY9
          have HB9 := Aside0.mk hB9
          have HR9 := Aside0.mk hr9
          have HN9 := Aside0.mk hn9
          clear hf8 hB8 hX8 hY8 hr8 hf9 hX9 hY9 hr9 hB9 HDEL hn9
          go_wp2_with (refine wpList_store_row rfl _ _ _ rfl (w.heap.size + 1) #[.int .i64 s, .int .i64 u, .slice A9 n9 c9] rfl rfl _ _ HY9.out (by kernel_rfl) rfl (by kernel_rfl) ?_)
          refine bodyPost_ret (results_ct rfl _ _ (w.heap.size + 1) _ #[.int .i64 s, .int .i64 u, .slice A9 n9 c9] (0, 0) _ rfl (setRow_heap _ _ _ _ _ _ HY9.out) Tryd.underlying24 rfl (by kernel_rfl)) rfl ?_
          exact HFIN1.out _ _ _ HB9.out HY9.out HR9.out HRR.out
      · have qtx2 : ¬ tx.toList = [] := fun h => htx (by rw [ByteArray.toList_eq] at h; have := congrArg List.length h; simpa [data_length] using this)
        have qtx : (tx.toList == []) = false := beq_eq_false_iff_ne.2 qtx2
        cases hs : seekK k l 0 with
        | none =>
          have hsb : seekB k l = false := by unfold seekB; rw [HSV.out, hs]; rfl
          by_cases h3 : l.length = 32
          · have HRR : Aside0 (r = (TG0, 2)) := ⟨by have := HR2.out; rw [hs] at this; rw [← this, if_neg htx, if_pos h3]⟩
            have q3 : ((l.length : Int) == 32) = true := by rw [h3]; rfl
            clear hs htx h3
            go_wp2_with (refine wpList_store_row rfl _ _ _ rfl (w.heap.size + 1) #[.int .i64 0, .int .i64 0, .slice none 0 0] rfl rfl _ _ HY7S.out (by kernel_rfl) rfl (by kernel_rfl) ?_)
            refine bodyPost_ret (results_ct rfl _ _ (w.heap.size + 1) _ #[.int .i64 0, .int .i64 0, .slice none 0 0] (0, 0) _ rfl (setRow_heap _ _ _ _ _ _ HY7S.out) Tryd.underlying24 rfl (by kernel_rfl)) rfl ?_
            exact HFIN0.out _ 2 (by rw [← HW7.out]; exact HB7.out) HY7S.out HRR.out
          · have HRR : Aside0 (r = (⟨s, u, l ++ [⟨k, tx⟩]⟩, 0)) := ⟨by have := HR2.out; rw [hs] at this; rw [← this, if_neg htx, if_neg h3]⟩
            have q3 : ((l.length : Int) == 32) = false := beq_eq_false_iff_ne.2 (by omega)
            clear hs htx h3
            obtain ⟨w8, hw8⟩ : ∃ w8, w8 = w7.alloc (.cells #[.string k, .string tx] 56 (0, 0)) := ⟨_, rfl⟩
            have hb8 : Below w7.heap.size w7 w8 := by rw [hw8]; exact below_alloc (Below.refl _ _) _
            have hfd : FD w8 (some ⟨w7.heap.size, 0, none⟩) 1 [⟨k, tx⟩] := ⟨⟨rfl, by simp, fun _ => ⟨_, rfl, fun j p hp => by
              match j, hp with
              | 0, hp =>
                cases hp
                refine ⟨[.string k, .string tx], rfl, k56_mk _ ⟨k, tx⟩, fun m x hx => ?_⟩
                have e : ((⟨w7.heap.size, 0, none⟩ : Addr).add (0 * 2 + m)) = ⟨w7.heap.size, m, none⟩ := by simp [Addr.add_lit]
                show w8.cell? ((⟨w7.heap.size, 0, none⟩ : Addr).add (0 * 2 + m)) = some x
                rw [e, hw8, cell_of_row _ _ _ _ _ _ (World.alloc_heap_new w7 _)]
                simpa using hx
              | j + 1, hp => simp at hp⟩⟩, by simp, by simp⟩
            obtain ⟨v9, w9, hrun, hr9, hg9⟩ := rowE_append w8 w5.heap.size _ l [⟨k, tx⟩] _ 1 (HR7.out.below hb8) hfd (by simp; omega) (by have := HS57.out; have := hb8.size; omega) 1 rfl
            have hX8 := (hb8.block _ (lt_of_block HX7.out)).trans HX7.out
            have hY8 := (hb8.block _ (lt_of_block HY7.out)).trans HY7.out
            have hblk : ∀ j, (Value.slice A2 l.length c2).ownBlock = some j → w5.heap.size ≤ j := fun j hj => (HR7.out.block j hj).2
            have hX9 := (hg9.block _ (lt_of_block hX8) (fun e => by have := hblk _ e.symm; have := HS57.out; omega)).trans hX8
            have hY9 := (hg9.block _ (lt_of_block hY8) (fun e => by have := hblk _ e.symm; have := HS57.out; omega)).trans hY8
            have hB9 : Below w.heap.size w w9 := (HB7.out.trans (hb8.mono HB7.out.size)).grown hg9 (Nat.le_trans HB7.out.size hb8.size) (fun j e => by have := hblk _ e; have := HS57.out; omega)
            obtain ⟨A9, c9, rfl, -⟩ := RowE.fd hr9 (by simp; omega)
            have hsz : w7.heap.size = w6.heap.size := by rw [HW7.out]; simp [World.setCell]
            rw [hsz, hw8, HW7.out] at hrun
            clear hsz
            have x92 : w9.cell? ⟨w.heap.size, 2, none⟩ = some (.slice A2 l.length c2) := by rw [cell_of_row _ _ _ _ _ _ hX9]; rfl
            have f9 : w9.frozen? ⟨w.heap.size, 2, none⟩ = false := blk_frozen hX9 2
            generalize hn9 : (l ++ [(⟨k, tx⟩ : S56)]).length = n9 at *
            have hf0 : Fr (fun k => k = w.heap.size) w9 (w9.setCell ⟨w.heap.size, 2, none⟩ (.slice A9 n9 c9)) := Fr.setCell (S := fun k => k = w.heap.size) (Fr.refl _ _) (p := ⟨w.heap.size, 2, none⟩) (fun _ => rfl) _
            have hX0 : (w9.setCell ⟨w.heap.size, 2, none⟩ (.slice A9 n9 c9)).heap[w.heap.size]? = some (tagObj s u A9 n9 c9) := by rw [heap_setCell_same _ _ _ _ _ _ hX9]; rfl
            have hY0 : (w9.setCell ⟨w.heap.size, 2, none⟩ (.slice A9 n9 c9)).heap[w.heap.size + 1]? = some tag0 := (hf0.block _ (lt_of_block hY9) (by omega)).trans hY9
            have hr0 := RowV.fr (base := w.heap.size) (hr9.less (by have := HB5.out.size; omega)) hf0 (fun j cs hj _ he => by subst hj; rw [hX9] at he; cases he)
            have hB0 := hB9.trans (hf0.to_below hB9.size (fun j hj => by subst hj; exact Nat.le_refl _))
            have x00 : (w9.setCell ⟨w.heap.size, 2, none⟩ (.slice A9 n9 c9)).cell? ⟨w.heap.size, 0, none⟩ = some (.int .i64 s) := by rw [cell_of_row _ _ _ _ _ _ hX0]; rfl
            have x01 : (w9.setCell ⟨w.heap.size, 2, none⟩ (.slice A9 n9 c9)).cell? ⟨w.heap.size, 1, none⟩ = some (.int .i64 u) := by rw [cell_of_row _ _ _ _ _ _ hX0]; rfl
            have x02 : (w9.setCell ⟨w.heap.size, 2, none⟩ (.slice A9 n9 c9)).cell? ⟨w.heap.size, 2, none⟩ = some (.slice A9 n9 c9) := by rw [cell_of_row _ _ _ _ _ _ hX0]; rfl
            have HRUN := Aside0.mk hrun
            have HW8 := Aside0.mk hw8
            have HY0 := Aside0.mk hY0
            have HB0 := Aside0.mk hB0
            have HR0 := Aside0.mk hr0
            clear hw8 hb8 hfd hrun hr9 hg9 hX8 hY8 hblk hX9 hY9 hB9 hf0 hX0 hY0 hr0 hB0 hn9
            go_wp2_with (first | (at_builtin; refine wpList_run_append rfl _ _ _ rfl _ _ rfl rfl HRUN.out ?_) | (refine wpList_store_row rfl _ _ _ rfl (w.heap.size + 1) #[.int .i64 s, .int .i64 u, .slice A9 n9 c9] rfl rfl _ _ HY0.out (by kernel_rfl) rfl (by kernel_rfl) ?_))
            refine bodyPost_ret (results_ct rfl _ _ (w.heap.size + 1) _ #[.int .i64 s, .int .i64 u, .slice A9 n9 c9] (0, 0) _ rfl (setRow_heap _ _ _ _ _ _ HY0.out) Tryd.underlying24 rfl (by kernel_rfl)) rfl ?_
            exact HFIN1.out _ _ _ HB0.out HY0.out HR0.out HRR.out
        | some i =>
          have hsb : seekB k l = true := by unfold seekB; rw [HSV.out, hs]; rfl
          have hsi : seekI k l = (i : Int) := by unfold seekI; rw [HSV.out, hs]
          obtain ⟨_, hi, hki, _⟩ := seekK_some hs
          rw [Nat.sub_zero] at hki
          have hi2 : i < l.length := by omega
          have HRR : Aside0 (r = (⟨s, u, l.take i ++ ⟨k, tx⟩ :: l.drop (i + 1)⟩, 0)) := ⟨by have := HR2.out; rw [hs] at this; rw [← this]; dsimp only; rw [if_neg htx]⟩
          obtain ⟨g, rfl, hg5, cur, hgc⟩ := rowE_some HR7.out rfl (by omega)
          have hcl := HR7.out.cellAt (2 * i + 1) _ (flatE_get l i hi2).2
          rw [show 2 * i + 1 = i * 2 + 1 by omega, HW7.out] at hcl
          have hfz : (w6.setCell ⟨w.heap.size, 2, none⟩ (.slice (some ⟨g, 0, none⟩) l.length c2)).frozen? ⟨g, i * 2 + 1, none⟩ = false := by rw [← HW7.out]; exact blk_frozen hgc _
          have hr8 := rowE_set HR7.out rfl i hi2 tx
          rw [hki, HW7.out] at hr8
          have hf8 : Fr (fun k => k = g) w7 ((w6.setCell ⟨w.heap.size, 2, none⟩ (.slice (some ⟨g, 0, none⟩) l.length c2)).setCell ⟨g, i * 2 + 1, none⟩ (.string tx)) := by rw [← HW7.out]; exact Fr.setCell (S := fun k => k = g) (Fr.refl _ _) (p := ⟨g, i * 2 + 1, none⟩) (fun _ => rfl) _
          have hgw : w.heap.size + 1 < g := by have := HS57.out; omega
          have hB8 := HB7.out.trans (hf8.to_below HB7.out.size (fun j hj => by omega))
          have hX8 := blk_fr HX7.out hf8 (by omega)
          have hY8 := blk_fr HY7.out hf8 (by omega)
          obtain ⟨ov, hov⟩ : ∃ ov, (nth l i).f1 = ov := ⟨_, rfl⟩
          rw [hov] at hcl
          have hl8 : (l.take i ++ (⟨k, tx⟩ : S56) :: l.drop (i + 1)).length = l.length := by simp; omega
          have x80 : ((w6.setCell ⟨w.heap.size, 2, none⟩ (.slice (some ⟨g, 0, none⟩) l.length c2)).setCell ⟨g, i * 2 + 1, none⟩ (.string tx)).cell? ⟨w.heap.size, 0, none⟩ = some (.int .i64 s) := by rw [cell_of_row _ _ _ _ _ _ hX8]; rfl
          have x81 : ((w6.setCell ⟨w.heap.size, 2, none⟩ (.slice (some ⟨g, 0, none⟩) l.length c2)).setCell ⟨g, i * 2 + 1, none⟩ (.string tx)).cell? ⟨w.heap.size, 1, none⟩ = some (.int .i64 u) := by rw [cell_of_row _ _ _ _ _ _ hX8]; rfl
          have x82 : ((w6.setCell ⟨w.heap.size, 2, none⟩ (.slice (some ⟨g, 0, none⟩) l.length c2)).setCell ⟨g, i * 2 + 1, none⟩ (.string tx)).cell? ⟨w.heap.size, 2, none⟩ = some (.slice (some ⟨g, 0, none⟩) l.length c2) := by rw [cell_of_row _ _ _ _ _ _ hX8]; rfl
          have HY8 := Aside0.mk hY8
          have HB8 := Aside0.mk hB8
          have HR8 := Aside0.mk (hr8.less (base := w.heap.size) (by have := HS57.out; omega))
          have HL8 := Aside0.mk hl8
          clear hs htx hi hki hg5 hgc hr8 hf8 hgw hB8 hX8 hY8 hov hl8
          go_wp2_with (refine wpList_store_row rfl _ _ _ rfl (w.heap.size + 1) #[.int .i64 s, .int .i64 u, .slice (some ⟨g, 0, none⟩) l.length c2] rfl rfl _ _ HY8.out (by kernel_rfl) rfl (by kernel_rfl) ?_)
          refine bodyPost_ret (results_ct rfl _ _ (w.heap.size + 1) _ #[.int .i64 s, .int .i64 u, .slice (some ⟨g, 0, none⟩) l.length c2] (0, 0) _ rfl (setRow_heap _ _ _ _ _ _ HY8.out) Tryd.underlying24 rfl (by kernel_rfl)) rfl ?_
          exact HFIN1.out _ _ _ HB8.out HY8.out HR8.out HRR.out
    · have HR2 : Aside0 (r = (TG0, 4)) := ⟨by have := HR.out; rw [if_neg hkz] at this; exact this.symm⟩
      have HY4S : Aside0 ((w3.alloc (keyObj' k)).heap[w.heap.size + 1]? = some tag0) := ⟨by rw [← HW4.out]; exact HY4.out⟩
      by_cases hk : keyOk k = true
      · have hz : ¬ tx.size ≤ 1000 := fun h => hkz ⟨hk, h⟩
        have hd : decide ((1000 : Int) < (tx.size : Int)) = true := by simp; omega
        rw [hk]
        clear hkz hk hz z2
        go_wp2_with (refine wpList_store_row rfl _ _ _ rfl (w.heap.size + 1) #[.int .i64 0, .int .i64 0, .slice none 0 0] rfl rfl _ _ HY4S.out (by kernel_rfl) rfl (by kernel_rfl) ?_)
        refine bodyPost_ret (results_ct rfl _ _ (w.heap.size + 1) _ #[.int .i64 0, .int .i64 0, .slice none 0 0] (0, 0) _ rfl (setRow_heap _ _ _ _ _ _ HY4S.out) Tryd.underlying24 rfl (by kernel_rfl)) rfl ?_
        exact HFIN0.out _ 4 (by rw [← HW4.out]; exact HB4.out) HY4S.out HR2.out
      · have hk0 : keyOk k = false := by simpa using hk
        rw [hk0]
        clear hkz hk hk0 z2
        go_wp2_with (refine wpList_store_row rfl _ _ _ rfl (w.heap.size + 1) #[.int .i64 0, .int .i64 0, .slice none 0 0] rfl rfl _ _ HY4S.out (by kernel_rfl) rfl (by kernel_rfl) ?_)
        refine bodyPost_ret (results_ct rfl _ _ (w.heap.size + 1) _ #[.int .i64 0, .int .i64 0, .slice none 0 0] (0, 0) _ rfl (setRow_heap _ _ _ _ _ _ HY4S.out) Tryd.underlying24 rfl (by kernel_rfl)) rfl ?_
        exact HFIN0.out _ 4 (by rw [← HW4.out]; exact HB4.out) HY4S.out HR2.out
  · rw [if_neg ho] at hck
    have HCK := Aside0.mk hck
    have HR : Aside0 (r = (TG0, 1)) := ⟨by rw [← hr]; unfold fSet; rw [if_neg ho]⟩
    clear hr ho hck hw1
    go_enter Tryd.func27, Tryd.ntmps27
    go_wp2_with fail
    rw [← HW1.out]
    refine HCK.out.mono ?_
    rintro e w2 ⟨rfl, hb2⟩
    have HB2 := Aside0.mk (HB1.out.trans (hb2.mono HB1.out.size))
    have HY2 := Aside0.mk (blk_fr HY1.out (Fr.below hb2 (fun _ => False)) (fun h => h))
    clear hb2 HCK z0 z1 z2
    go_wp2_with (refine wpList_store_row rfl _ _ _ rfl (w.heap.size + 1) #[.int .i64 0, .int .i64 0, .slice none 0 0] rfl rfl _ _ HY2.out (by kernel_rfl) rfl (by kernel_rfl) ?_)
    refine bodyPost_ret (results_ct rfl _ _ (w.heap.size + 1) _ #[.int .i64 0, .int .i64 0, .slice none 0 0] (0, 0) _ rfl (setRow_heap _ _ _ _ _ _ HY2.out) Tryd.underlying24 rfl (by kernel_rfl)) rfl ?_
    exact HFIN0.out w2 1 HB2.out HY2.out HR.out
end Go.Proofs.YthlmnnjbpikijaaDoor.P
end
