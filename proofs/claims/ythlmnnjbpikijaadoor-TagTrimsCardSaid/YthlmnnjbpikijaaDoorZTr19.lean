/- Rows of rows of one's own. The contract of tag.Grown. The contract of tag.Grown. The contract of tag.Trim. The values of the reference's functions of sounds; what Grown gives is a sound, and Trim takes it back. -/
import Derived.Laws.CopyRow
import Derived.Laws.IdiomCopy
import Derived.Test.YthlmnnjbpikijaaDoorZTr15
import Derived.Test.YthlmnnjbpikijaaDoorZTr17
import Derived.Test.YthlmnnjbpikijaaDoorZTr18
import Derived.Test.YthlmnnjbpikijaaDoorZTr12
section
namespace Go.Proofs.YthlmnnjbpikijaaDoor.P
open Go.RowKit Go.Shelf Go.Proofs.YthlmnnjbpikijaaDoor.Bits Go.Proofs.YthlmnnjbpikijaaDoorW.PrintWords Go.Proofs.YthlmnnjbpikijaaDoorW.PrintLast Go.Proofs.YthlmnnjbpikijaaDoorW.PrintMore
set_option linter.unusedVariables false
set_option linter.unusedSimpArgs false
attribute [local go_sem ↓] Go.wp_at_zero Go.wp_at_succ
def flatI (l : List Int) : List Value := l.map fun x => .int .i64 x
/-- A row of numbers, in a block of numbers. -/
structure IR (W : World) (A : Option Addr) (x : List Int) : Prop where
  C : Kd.C (Kd.int .i64) W A x.length x
  typed : ∀ ad, A = some ad → ∃ cs, W.heap[ad.block]? = some (.cells cs 3 (0, 0))
theorem IR.fr {W W' : World} {A : Option Addr} {x : List Int} {T : Nat → Prop} (h : IR W A x) (hf : Fr T W W') (hT : ∀ k cs, T k → W.heap[k]? ≠ some (.cells cs 3 (0, 0))) : IR W' A x := by
  refine ⟨C_fr h.C hf (fun ad e _ q => ?_), fun ad e => ?_⟩
  · obtain ⟨cs, hc⟩ := h.typed ad e
    exact hT _ cs q hc
  · obtain ⟨cs, hc⟩ := h.typed ad e
    exact ⟨cs, blk_fr hc hf (fun q => hT _ cs q hc)⟩
/-- A row of rows of one's own, in memory made from w on. -/
structure RL (w W : World) (v : Value) (f : List (List Int)) : Prop where
  row : ∃ vs : List Value, vs.length = f.length ∧ RowV W w.heap.size 59 1 v f.length vs ∧ ∀ (j : Nat) (x : List Int), f[j]? = some x → ∃ A c, vs[j]? = some (Value.slice A x.length c) ∧ x.length ≤ c ∧ IR W A x
theorem RL.nil (w W : World) : RL w W (.slice none 0 0) [] := ⟨[], rfl, World.ownsRow_nil W w.heap.size _ _, fun j x h => by simp at h⟩
theorem RL.fr {w W W' : World} {v : Value} {f : List (List Int)} {T : Nat → Prop} (h : RL w W v f) (hf : Fr T W W') (hT : ∀ k cs t, T k → W.heap[k]? = some (.cells cs t (0, 0)) → t ≠ 3 ∧ t ≠ 59) : RL w W' v f := by
  obtain ⟨vs, hl, hr, hi⟩ := h.row
  refine ⟨vs, hl, RowV.fr hr hf (fun k cs q _ e => (hT k cs _ q e).2 rfl), fun j x hj => ?_⟩
  obtain ⟨A, c, h1, h2, h3⟩ := hi j x hj
  exact ⟨A, c, h1, h2, h3.fr hf (fun k cs q e => (hT k cs _ q e).1 rfl)⟩
theorem RL.below {w W W' : World} {v : Value} {f : List (List Int)} (h : RL w W v f) (hb : Below W.heap.size W W') : RL w W' v f := h.fr (Fr.below hb (fun _ => False)) (fun _ _ _ q => q.elim)
theorem RL.slice {w W : World} {v : Value} {f : List (List Int)} (h : RL w W v f) : ∃ A c, v = .slice A f.length c := by
  obtain ⟨vs, hl, hr, hi⟩ := h.row
  exact RowV.slice hr
/-- Another, newer block is written. -/
theorem RL.fresh {w W W' : World} {v : Value} {f : List (List Int)} (h : RL w W v f) (hf : Fr (fun k => W.heap.size ≤ k) W W') : RL w W' v f :=
  h.fr hf (fun k cs t q e => by have := lt_of_block e; omega)
theorem RL.app {w W : World} {v : Value} {f : List (List Int)} (h : RL w W v f) (hw : w.heap.size ≤ W.heap.size) (x : List Int) (A : Option Addr) (c : Nat) (hx : IR W A x) (hc : x.length ≤ c) (hl : f.length ≤ 1000) :
    ∃ v1 W1, (Builtin.append_ #[44, 44] 44 #[v, .slice (some ⟨W.heap.size, 0, none⟩) 1 1]).run Tryd.prog (W.alloc (.cells #[.slice A x.length c] 59 (0, 0))) = .ok v1 W1 ∧ RL w W1 v1 (f ++ [x]) ∧ Fr (fun k => v.ownBlock = some k) W W1 := by
  obtain ⟨vs, hln, hr, hi⟩ := h.row
  have hb : Below W.heap.size W (W.alloc (.cells #[.slice A x.length c] 59 (0, 0))) := below_alloc (Below.refl _ _) _
  obtain ⟨i0, hi0, hzz⟩ := Option.map_eq_some_iff.1 info59
  simp only [Prod.mk.injEq] at hzz
  obtain ⟨hz0, hz1, hz2⟩ := hzz
  obtain ⟨v1, w1, hrun, h2, h3, _, _⟩ := run_append_own_at (P := Tryd.prog) (W.alloc (.cells #[.slice A x.length c] 59 (0, 0))) w.heap.size 44 44 59 i0 _ 1 24 Tryd.underlying44 hi0 hz0 hz1 hz2 rfl (by omega) v f.length vs (RowV.below hr hb) ⟨W.heap.size, 0, none⟩ 1 1 [.slice A x.length c] (by simp)
    (fun j u hu => by
      rw [show (⟨W.heap.size, 0, none⟩ : Addr).add j = ⟨W.heap.size, j, none⟩ by simp [Addr.add_lit], cell_of_row _ _ _ _ _ _ (World.alloc_heap_new W _)]
      simpa using hu)
    (by intro u hu; simp at hu; subst hu; rfl) (by simp only [maxLen]; omega) (by omega) (Nat.le_trans hw hb.size)
  have hfr : Fr (fun k => v.ownBlock = some k) W w1 := (Fr.below hb _).grown h3 (fun k _ e => e)
  have hT : ∀ k cs, v.ownBlock = some k → W.heap[k]? ≠ some (.cells cs 3 (0, 0)) := fun k cs q e => by
    obtain ⟨⟨cs', hc'⟩, _⟩ := RowV.block hr k q
    rw [e] at hc'
    cases hc'
  refine ⟨v1, w1, hrun, ⟨vs ++ [.slice A x.length c], by simp [hln], by rw [List.length_append]; exact h2, fun j y hj => ?_⟩, hfr⟩
  rcases Nat.lt_or_ge j f.length with hlt | hge
  · rw [List.getElem?_append_left hlt] at hj
    obtain ⟨A', c', h1', h2', h3'⟩ := hi j y hj
    exact ⟨A', c', by rw [List.getElem?_append_left (by omega)]; exact h1', h2', h3'.fr hfr hT⟩
  · rw [List.getElem?_append_right hge] at hj
    have hj0 : j - f.length = 0 := by
      rcases Nat.eq_zero_or_pos (j - f.length) with h | h
      · exact h
      · rw [List.getElem?_eq_none (by simp; omega)] at hj; cases hj
    rw [hj0] at hj
    cases hj
    exact ⟨A, c, by rw [List.getElem?_append_right (by omega), hln, hj0]; rfl, hc, hx.fr hfr hT⟩
theorem RL.cd {w W : World} {A : Option Addr} {c n : Nat} {f : List (List Int)} (h : RL w W (.slice A n c) f) (hn : n = f.length) (hl : f.length ≤ 1000) (hx : ∀ x ∈ f, x.length ≤ 1000000000) : CD W A c f := by
  obtain ⟨vs, hln, hr, hi⟩ := h.row
  subst hn
  rcases hr.2 with ⟨hv, h0⟩ | ⟨g, cap, cur, hv, hb, hg, hc, hm, hs, ht⟩
  · exact ⟨⟨rfl, by omega, fun q => by omega⟩, by omega, by omega, hx⟩
  · cases hv
    refine ⟨⟨rfl, by omega, fun q => ⟨_, rfl, fun j x hj => ?_⟩⟩, hc, by omega, hx⟩
    obtain ⟨A', c', h1, h2, h3⟩ := hi j x hj
    refine ⟨[.slice A' x.length c'], rfl, ⟨A', c', rfl, h2, h3.C⟩, fun i u hu => ?_⟩
    have hj' : j < f.length := by
      rcases Nat.lt_or_ge j f.length with h | h
      · exact h
      · rw [List.getElem?_eq_none h] at hj; cases hj
    match i, hu with
    | 0, hu =>
      cases hu
      show W.cell? ((⟨g, 0, none⟩ : Addr).add (j * 1 + 0)) = _
      rw [show (⟨g, 0, none⟩ : Addr).add (j * 1 + 0) = ⟨g, j, none⟩ by simp [Addr.add_lit], cell_of_row _ _ _ _ _ _ hg]
      rw [← ht, List.getElem?_take] at h1
      split at h1
      · simpa using h1
      · cases h1
    | i + 1, hu => simp at hu
def zeros (n : Nat) : List Int := List.replicate n 0
/-- A list with zeros ahead and behind. -/
def padded (skip whole : Nat) (x : List Int) : List Int := zeros skip ++ (x ++ zeros (whole - skip - x.length))
theorem padded_length (skip whole : Nat) (x : List Int) (h : skip + x.length ≤ whole) : (padded skip whole x).length = whole := by simp [padded, zeros]; omega
theorem made_row (W : World) (m : Nat) (hm : m ≤ 10000) : ∃ cur : Array Value, W.alloc (.cells (madeCells #[.int .i64 0] m) 3) = W.alloc (.cells cur 3 (0, 0)) ∧ cur.toList = flatI (zeros m) := by
  refine ⟨_, rfl, ?_⟩
  have hz : ∀ n : Nat, (madeCells #[Value.int .i64 0] n).toList = List.replicate n (Value.int .i64 0) := fun n => by
    apply List.ext_getElem
    · simp [madeCells]
    · intro i h1 h2
      simp [madeCells, Nat.mod_one]
  rw [hz]
  simp [flatI, zeros]
/-- What the copy into a row of zeros does. -/
theorem copy_pad (skip whole c : Nat) (x : List Int) (A : Option Addr) (W : World) (g : Nat) (cur : Array Value) (dA : Option Addr) (hg : W.heap[g]? = some (.cells cur 3 (0, 0))) (hcur : cur.toList = flatI (zeros whole)) (hC : Kd.C (Kd.int .i64) W A x.length x) (hfit : skip + x.length ≤ whole)
    (hd : dA = (if whole = skip then some ⟨g, 0, none⟩ else some ⟨g, skip, none⟩)) (ty : TypeId) :
    ∃ r W2, (Builtin.copy_ #[59, 59] ty #[.slice dA (whole - skip) (whole - skip), .slice A x.length c]).run Tryd.prog W = .ok r W2 ∧ Fr (fun k => k = g) W W2 ∧ ∃ cur2 : Array Value, W2.heap[g]? = some (.cells cur2 3 (0, 0)) ∧ cur2.toList = flatI (padded skip whole x) := by
  have h3 : (Tryd.prog.info? 3).map (·.size) = some 1 := by kernel_rfl
  by_cases h0 : x.length = 0
  · have hx : x = [] := List.eq_nil_of_length_eq_zero h0
    subst hx
    refine ⟨_, W, run_copy_none (P := Tryd.prog) W 59 59 ty 3 dA A (whole - skip) (whole - skip) 0 c Tryd.underlying59 h3 (by simp), Fr.refl _ _, cur, hg, ?_⟩
    rw [hcur]
    unfold padded zeros
    simp
    rw [show skip + (whole - skip) = whole by simp at hfit; omega]
  · obtain ⟨ad, rfl, -⟩ := at_i64 hC 0 (by omega)
    rw [if_neg (by omega)] at hd
    subst hd
    have hrun := run_copy_row (P := Tryd.prog) W 59 59 ty 3 g skip (whole - skip) (whole - skip) ad x.length c cur 3 (flatI x) Tryd.underlying59 h3 hg (by rw [show (flatI x).length = x.length by simp [flatI]]; exact (Nat.min_eq_left (by omega)).symm) (fun j u hu => by
      have hj : j < x.length := by
        rcases Nat.lt_or_ge j x.length with h | h
        · exact h
        · rw [List.getElem?_eq_none (by simp [flatI]; omega)] at hu; cases hu
      obtain ⟨ad', e, hc⟩ := at_i64 hC j hj
      cases e
      rw [hc, ← hu]
      simp [flatI, hj]) (by
      have hcs : cur.size = whole := by rw [← Array.length_toList, hcur]; simp [flatI, zeros]
      rw [hcs]
      simp [flatI]
      omega) (by intro u hu; unfold flatI at hu; obtain ⟨y, _, rfl⟩ := List.mem_map.1 hu; rfl)
    refine ⟨_, _, hrun, fr_setRow W g _, _, setRow_heap W g _ _ _ _ hg, ?_⟩
    rw [hcur]
    unfold padded zeros flatI
    simp
    have hm : min skip whole = skip := Nat.min_eq_left (by omega)
    rw [hm, show whole - (skip + x.length) = whole - skip - x.length by omega]
theorem IR.of_row {W : World} {g : Nat} {cur : Array Value} {x : List Int} (hg : W.heap[g]? = some (.cells cur 3 (0, 0))) (hc : cur.toList = flatI x) (hx : x.length ≤ 1000000000) : IR W (some ⟨g, 0, none⟩) x := by
  refine ⟨Kd.C_of_reads (enc := Value.int .i64) (d := (0 : Int)) (h1 := fun _ => rfl) ⟨rfl, by omega, fun _ => ⟨_, rfl, fun j hj => ?_⟩⟩, fun ad e => by cases e; exact ⟨cur, hg⟩⟩
  rw [show (⟨g, 0, none⟩ : Addr).add j = ⟨g, j, none⟩ by simp [Addr.add_lit], cell_of_row _ _ _ _ _ _ hg]
  have : cur[j]? = (flatI x)[j]? := by rw [← hc]; simp
  rw [this]
  simp [flatI, hj, List.getD_eq_getElem?_getD]
end Go.Proofs.YthlmnnjbpikijaaDoor.P
end
section
namespace Go.Proofs.YthlmnnjbpikijaaDoor.P
open Go.RowKit Go.Shelf Go.Proofs.YthlmnnjbpikijaaDoor.Bits Go.Proofs.YthlmnnjbpikijaaDoorW.PrintWords Go.Proofs.YthlmnnjbpikijaaDoorW.PrintLast Go.Proofs.YthlmnnjbpikijaaDoorW.PrintMore
set_option linter.unusedVariables false
set_option linter.unusedSimpArgs false
attribute [local go_sem ↓] Go.wp_at_zero Go.wp_at_succ
theorem results_cct {P : Program} {fn : Func} {p u q : Tmp} {ty ty2 : TypeId} (h : fn.results = #[.cell p ty, .cell q ty2, .tmp u]) (tmps : Array Value) (w : World) (g : Nat) (t : TypeId) (cs : Array Value) (fr : Nat × Nat) (d : TypeDesc)
    (hp : tmps.getD p undef = .pointer (some ⟨g, 0, none⟩)) (hg : w.heap[g]? = some (.cells cs t fr))
    (hu : P.underlying ty = some d) (hd : (match d with | .struct _ | .array _ _ => true | _ => false) = true) (hi : (P.info? ty).map (·.size) = some cs.size)
    (g2 : Nat) (t2 : TypeId) (cs2 : Array Value) (fr2 : Nat × Nat) (d2 : TypeDesc)
    (hp2 : tmps.getD q undef = .pointer (some ⟨g2, 0, none⟩)) (hg2 : w.heap[g2]? = some (.cells cs2 t2 fr2))
    (hu2 : P.underlying ty2 = some d2) (hd2 : (match d2 with | .struct _ | .array _ _ => true | _ => false) = true) (hi2 : (P.info? ty2).map (·.size) = some cs2.size) :
    (results fn tmps).run P w = .ok (.tuple #[.agg cs, .agg cs2, tmps.getD u undef]) w := by
  have hp' : tmps[p]?.getD undef = .pointer (some ⟨g, 0, none⟩) := by simpa using hp
  have hq' : tmps[q]?.getD undef = .pointer (some ⟨g2, 0, none⟩) := by simpa using hp2
  simp [results, h, hp', hq', asAddr, run_loadVar_row w g t ty cs fr d hg hu hd hi, run_loadVar_row w g2 t2 ty2 cs2 fr2 d2 hg2 hu2 hd2 hi2]
abbrev snd0 : Obj := .cells #[.int .i64 0, .slice none 0 0] 46 (0, 0)
def wholeN (n : Nat) : Nat := (n + 127) / 128 * 128
structure GR where
  rate : Int
  ls : List (List Int)
  tag : TG
  err : Int
def fGrown (r : Int) (ls : List (List Int)) (skip : Int) : GR :=
  if okSnd r ls = true then
    if okN skip = true then
      if 8192 < wholeN (skip.toNat + (lth ls 0).length) then ⟨0, [], TG0, 2⟩
      else ⟨r, ls.map (padded skip.toNat (wholeN (skip.toNat + (lth ls 0).length))), ⟨skip, ((wholeN (skip.toNat + (lth ls 0).length) - (skip.toNat + (lth ls 0).length) : Nat) : Int), []⟩, 0⟩
    else ⟨0, [], TG0, 6⟩
  else ⟨0, [], TG0, 1⟩
def GrownPost (w : World) (g : GR) (e : Ending) (w' : World) : Prop :=
  ∃ A c, e = .returned (.tuple #[sndV g.rate A g.ls.length c, tagV g.tag.skip g.tag.cut none 0 0, .int .i64 g.err]) ∧ RL w w' (.slice A g.ls.length c) g.ls ∧ Below w.heap.size w w'
theorem RL.block {w W : World} {v : Value} {f : List (List Int)} (h : RL w W v f) (j : Nat) (hj : v.ownBlock = some j) : (∃ cs, W.heap[j]? = some (.cells cs 59 (0, 0))) ∧ w.heap.size ≤ j := by
  obtain ⟨vs, hl, hr, hi⟩ := h.row
  exact RowV.block hr j hj
/-- The blocks of the results. -/
structure GB (w W : World) : Prop where
  k4 : W.heap[w.heap.size + 1]? = some snd0
  k5 : W.heap[w.heap.size + 2]? = some tag0'
  bel : Below w.heap.size w W
theorem GB.below {w W W' : World} (h : GB w W) (hb : Below W.heap.size W W') : GB w W' := ⟨(hb.block _ (lt_of_block h.k4)).trans h.k4, (hb.block _ (lt_of_block h.k5)).trans h.k5, h.bel.trans (hb.mono h.bel.size)⟩
theorem GB.fr {w W W' : World} {g : Nat} (h : GB w W) (hf : Fr (fun k => k = g) W W') (hg : w.heap.size + 2 < g) : GB w W' := ⟨blk_fr h.k4 hf (by omega), blk_fr h.k5 hf (by omega), h.bel.trans (hf.to_below h.bel.size (fun j hj => by omega))⟩
set_option maxHeartbeats 8000000 in
set_option maxRecDepth 100000 in
theorem Grown_any (r : Int) (A : Option Addr) (c : Nat) (ls : List (List Int)) (skip : Int) (w : World) (h : CD w A c ls) (hg : HG w) :
    Calls Tryd.prog 32 #[sndV r A ls.length c, .int .i64 skip] w (GrownPost w (fGrown r ls skip)) := by
  obtain ⟨w1, hw1⟩ : ∃ w1, w1 = ((w.alloc (sndObj r A ls.length c)).alloc snd0).alloc tag0' := ⟨_, rfl⟩
  have hb1 : Below w.heap.size w w1 := by rw [hw1]; exact below_alloc (below_alloc (below_alloc (Below.refl _ _) _) _) _
  have hx1 : w1.heap[w.heap.size]? = some (sndObj r A ls.length c) := by rw [hw1]; exact blk_alloc' (blk_alloc' (World.alloc_heap_new w _) _) _
  have hGB : GB w w1 := ⟨by rw [hw1]; have := World.alloc_heap_new (w.alloc (sndObj r A ls.length c)) snd0; exact blk_alloc' (by simpa using this) _, by rw [hw1]; have := World.alloc_heap_new ((w.alloc (sndObj r A ls.length c)).alloc snd0) tag0'; simpa using this, hb1⟩
  have his := isSound_any r A c ls w1 (h.below hb1) (hg.below hb1)
  have HGB := Aside0.mk hGB
  have HX1 := Aside0.mk hx1
  have HW1 := Aside0.mk hw1
  have HCD := Aside0.mk h
  obtain ⟨gr, hgr⟩ : ∃ gr, fGrown r ls skip = gr := ⟨_, rfl⟩
  rw [hgr]
  unfold fGrown at hgr
  have z0 : w1.cell? ⟨w.heap.size, 0, none⟩ = some (.int .i64 r) := by rw [cell_of_row _ _ _ _ _ _ hx1]; rfl
  have z1 : w1.cell? ⟨w.heap.size, 1, none⟩ = some (.slice A ls.length c) := by rw [cell_of_row _ _ _ _ _ _ hx1]; rfl
  clear hb1 hx1 hGB hw1 h hg
  by_cases ho : okSnd r ls = true
  · rw [if_pos ho] at hgr
    rw [ho] at his
    have HIS := Aside0.mk his
    have hok := (okSnd_iff r ls).1 ho
    obtain ⟨-, ⟨hn1, hn2⟩, hch⟩ := hok
    by_cases hsk : okN skip = true
    · rw [if_pos hsk] at hgr
      have HIC := fun W => isCount_any skip W
      rw [hsk] at HIC
      have HIC := Aside0.mk HIC
      obtain ⟨sk, rfl⟩ : ∃ sk : Nat, skip = (sk : Int) := ⟨skip.toNat, by unfold okN at hsk; simp only [decide_eq_true_eq] at hsk; omega⟩
      have hsk8 : sk ≤ 8192 := by unfold okN at hsk; simp only [decide_eq_true_eq] at hsk; omega
      rw [Int.toNat_natCast] at hgr
      obtain ⟨n0, hn0⟩ : ∃ n, (lth ls 0).length = n := ⟨_, rfl⟩
      have hn08 : n0 ≤ 8192 := by
        have := hch 0 (by omega)
        unfold okCh at this
        simp only [Bool.and_eq_true, decide_eq_true_eq] at this
        omega
      rw [hn0] at hgr
      have HGR := Aside0.mk hgr
      have HN0 := Aside0.mk hn0
      have HCH := Aside0.mk hch
      clear his ho hgr hsk hn0 hch
      go_enter Tryd.func32, Tryd.ntmps32
      go_wp2_with fail
      rw [← HW1.out]
      refine HIS.out.mono ?_
      rintro e w2 ⟨rfl, hb2⟩
      have HGB2 := Aside0.mk (HGB.out.below hb2)
      have hx2 := (hb2.block _ (lt_of_block HX1.out)).trans HX1.out
      have HX2 := Aside0.mk hx2
      clear hb2 hx2 z0 z1
      go_wp2_with fail
      refine (HIC.out w2).mono ?_
      rintro e w3 ⟨rfl, hdr⟩
      have HGB3 := Aside0.mk (HGB2.out.below hdr.below)
      have hx3 := (hdr.below.block _ (lt_of_block HX2.out)).trans HX2.out
      have x0 : w3.cell? ⟨w.heap.size, 0, none⟩ = some (.int .i64 r) := by rw [cell_of_row _ _ _ _ _ _ hx3]; rfl
      have x1 : w3.cell? ⟨w.heap.size, 1, none⟩ = some (.slice A ls.length c) := by rw [cell_of_row _ _ _ _ _ _ hx3]; rfl
      have HCD3 := Aside0.mk (HCD.out.below HGB3.out.bel)
      obtain ⟨ad, A00, c00, rfl, h00, hc00, -, hl00⟩ := HCD3.out.at 0 (by omega)
      have h00' : w3.cell? ad = some (.slice A00 (lth ls 0).length c00) := by simpa [Addr.add] using h00
      rw [HN0.out] at h00 h00' hl00 hc00
      have HX3 := Aside0.mk hx3
      clear hdr hx3 HX2
      obtain ⟨wh, ewh⟩ : ∃ wh, wholeN (sk + n0) = wh := ⟨_, rfl⟩
      have hwh : ((sk : Int) + (n0 : Int) + 128 - 1) / 128 * 128 = (wh : Int) := by rw [← ewh]; unfold wholeN; omega
      have hwge : sk + n0 ≤ wh := by rw [← ewh]; unfold wholeN; omega
      have hgr := HGR.out
      rw [ewh] at hgr
      by_cases hbig : 8192 < wh
      · rw [if_pos hbig] at hgr
        have d1 : decide ((8192 : Int) < (wh : Int)) = true := by simp; omega
        subst hgr
        clear ewh
        have hk5 : Aside0 ((w3.setRow (w.heap.size + 1) #[.int .i64 0, .slice none 0 0]).heap[w.heap.size + 2]? = some tag0') := ⟨by rw [setRow_other _ _ _ _ (by omega)]; exact HGB3.out.k5⟩
        have hk4 : Aside0 (((w3.setRow (w.heap.size + 1) #[.int .i64 0, .slice none 0 0]).setRow (w.heap.size + 2) #[.int .i64 0, .int .i64 0, .slice none 0 0]).heap[w.heap.size + 1]? = some snd0) := ⟨by rw [setRow_other _ _ _ _ (by omega)]; exact setRow_heap _ _ _ _ _ _ HGB3.out.k4⟩
        go_wp2_with (first | (refine wpList_store_row rfl _ _ _ rfl (w.heap.size + 1) #[.int .i64 0, .slice none 0 0] rfl rfl _ _ HGB3.out.k4 (by kernel_rfl) rfl (by kernel_rfl) ?_) | (refine wpList_store_row rfl _ _ _ rfl (w.heap.size + 2) #[.int .i64 0, .int .i64 0, .slice none 0 0] rfl rfl _ _ hk5.out (by kernel_rfl) rfl (by kernel_rfl) ?_))
        refine bodyPost_ret (results_cct rfl _ _ (w.heap.size + 1) _ #[.int .i64 0, .slice none 0 0] (0, 0) _ rfl hk4.out Tryd.underlying46 rfl (by kernel_rfl) (w.heap.size + 2) _ #[.int .i64 0, .int .i64 0, .slice none 0 0] (0, 0) _ rfl (setRow_heap _ _ _ _ _ _ hk5.out) Tryd.underlying24 rfl (by kernel_rfl)) rfl ?_
        exact ⟨none, 0, rfl, RL.nil w _, HGB3.out.bel.trans (((fr_setRow _ _ _).mono (fun k _ h => h)).to_below HGB3.out.bel.size (fun j hj => by subst hj; omega) |>.trans ((fr_setRow _ _ _).to_below (by simp; exact HGB3.out.bel.size) (fun j hj => by subst hj; omega)))⟩
      · rw [if_neg hbig] at hgr
        have d1 : decide ((8192 : Int) < (wh : Int)) = false := by simp; omega
        have HGR2 := Aside0.mk hgr
        have HWG := Aside0.mk hwge
        obtain ⟨w4, hw4⟩ : ∃ w4, w4 = w3.alloc (sndObj r none 0 0) := ⟨_, rfl⟩
        have hb4 : Below w3.heap.size w3 w4 := by rw [hw4]; exact below_alloc (Below.refl _ _) _
        have HGB4 := Aside0.mk (HGB3.out.below hb4)
        have HK9 : Aside0 (w4.heap[w3.heap.size]? = some (sndObj r none 0 0)) := ⟨by rw [hw4]; exact World.alloc_heap_new w3 _⟩
        have HLT : Aside0 (w.heap.size + 2 < w3.heap.size) := ⟨lt_of_block HGB3.out.k5⟩
        have HW4 := Aside0.mk hw4
        have hx4 := (hb4.block _ (lt_of_block HX3.out)).trans HX3.out
        have y1 : (w3.alloc (sndObj r none 0 0)).cell? ⟨w.heap.size, 1, none⟩ = some (.slice (some ad) ls.length c) := by rw [← hw4, cell_of_row _ _ _ _ _ _ hx4]; rfl
        have hmk := print_make_of (P := Tryd.prog) 59 3 (.int .i64 0) 8 Tryd.underlying59 info3 rfl (by decide) wh (by omega)
        have HMK := Aside0.mk hmk
        have hwn : wh ≤ 8192 := by omega
        clear hgr hb4 hw4 hx4 hmk ewh
        go_wp2_with fail
        rw [← HW4.out]
        go_loopw [47] (fun u wr => ∃ k : Nat, u = .int .i64 (k : Int) ∧ k ≤ ls.length ∧ Aside0 (GB w wr) ∧ Aside0 (∃ A9 c9, wr.heap[w3.heap.size]? = some (sndObj r A9 k c9) ∧ RL w wr (.slice A9 k c9) ((ls.take k).map (padded sk wh)))) (fun u _ => ls.length - (intOf u).toNat)
        case atStart => exact ⟨0, rfl, Nat.zero_le _, HGB4, ⟨none, 0, HK9.out, RL.nil w _⟩⟩
        case round =>
          obtain ⟨k, rfl, hk, HG, HR9⟩ := hrel
          obtain ⟨A9, c9, hk9, hrl⟩ := HR9.out
          by_cases hlt : k < ls.length
          · obtain ⟨ad', A0, c0, e, hkc, hc0, hC0, hl0⟩ := (HCD.out.below HG.out.bel).at k hlt
            cases e
            have hxn : (lth ls k).length = n0 := by
              have := HCH.out k hlt
              unfold okCh at this
              simp only [Bool.and_eq_true, decide_eq_true_eq] at this
              rw [this.1.1, HN0.out]
            have htk : (ls.take (k + 1)).map (padded sk wh) = (ls.take k).map (padded sk wh) ++ [padded sk wh (lth ls k)] := by
              rw [List.take_succ_eq_append_getElem hlt, List.map_append]
              unfold lth
              rw [List.getD_eq_getElem?_getD, List.getElem?_eq_getElem hlt]
              rfl
            obtain ⟨x, hx⟩ : ∃ x, lth ls k = x := ⟨_, rfl⟩
            rw [hx] at hkc hc0 hC0 hl0 hxn htk
            have hpl := padded_length sk wh x (by omega)
            obtain ⟨cur, hcur, hcl⟩ := made_row wr wh (by omega)
            obtain ⟨wm, hwm⟩ : ∃ wm, wm = wr.alloc (.cells (madeCells #[.int .i64 0] wh) 3) := ⟨_, rfl⟩
            have hgm : wm.heap[wr.heap.size]? = some (.cells cur 3 (0, 0)) := by rw [hwm, hcur]; exact World.alloc_heap_new wr _
            have hbm : Below wr.heap.size wr wm := by rw [hwm]; exact below_alloc (Below.refl _ _) _
            obtain ⟨dA, hdA⟩ : ∃ dA, dA = (if wh = sk then some ⟨wr.heap.size, 0, none⟩ else some ⟨wr.heap.size, sk, none⟩ : Option Addr) := ⟨_, rfl⟩
            have hsl : ∀ W : World, (Instr.slice 59 (.slice (some ⟨wr.heap.size, 0, none⟩) wh wh) (some (.int .i64 (sk : Int))) none none).run Tryd.prog W = .ok (.slice dA (wh - sk) (wh - sk)) W := fun W => by
              have := cut_from (P := Tryd.prog) 59 3 .i64 Tryd.underlying59 (i := _) rfl 1 rfl (some ⟨wr.heap.size, 0, none⟩) wh wh (sk : Int) (by omega) (by omega) W
              rw [Int.toNat_natCast] at this
              rw [this, hdA]
              congr 2
              split
              · rfl
              · simp [Addr.add_lit]
            obtain ⟨rc, W2, hcp, hfc, cur2, hg2, hc2⟩ := copy_pad sk wh c0 x A0 wm wr.heap.size cur dA hgm hcl (Kd.C_below hC0 hbm) (by omega) hdA 3
            have hfr2 : Fr (fun j => wr.heap.size ≤ j) wr W2 := (Fr.below hbm _).trans (hfc.mono (fun j _ h => by subst h; exact Nat.le_refl _))
            have hrl2 := hrl.fresh hfr2
            have hir : IR W2 (some ⟨wr.heap.size, 0, none⟩) (padded sk wh x) := IR.of_row hg2 hc2 (by omega)
            have hgb2 : GB w W2 := (HG.out.below hbm).fr hfc (by have := lt_of_block HG.out.k5; have := HG.out.bel.size; omega)
            have hk92 : W2.heap[w3.heap.size]? = some (sndObj r A9 k c9) := (hfr2.block _ (lt_of_block hk9) (by have := lt_of_block hk9; omega)).trans hk9
            have hsz2 : w.heap.size ≤ W2.heap.size := hgb2.bel.size
            obtain ⟨v3, W3, hrun, hrl3, hf3⟩ := hrl2.app hsz2 (padded sk wh x) (some ⟨wr.heap.size, 0, none⟩) wh hir (by omega) (by rw [List.length_map, List.length_take]; omega)
            rw [hpl] at hrun
            rw [← htk] at hrl3
            obtain ⟨A3, c3, ev3⟩ := hrl3.slice
            subst ev3
            have hln3 : ((ls.take (k + 1)).map (padded sk wh)).length = k + 1 := by simp; omega
            rw [hln3] at hrun hrl3
            have hown := hrl2.block
            have hk93 : W3.heap[w3.heap.size]? = some (sndObj r A9 k c9) := blk_fr hk92 hf3 (fun q => by obtain ⟨⟨cs, hc⟩, _⟩ := hown _ q; rw [hk92] at hc; cases hc)
            have hgb3 : GB w W3 := ⟨blk_fr hgb2.k4 hf3 (fun q => by obtain ⟨⟨cs, hc⟩, _⟩ := hown _ q; rw [hgb2.k4] at hc; cases hc), blk_fr hgb2.k5 hf3 (fun q => by obtain ⟨⟨cs, hc⟩, _⟩ := hown _ q; rw [hgb2.k5] at hc; cases hc), hgb2.bel.trans (hf3.to_below hgb2.bel.size (fun j q => (hown j q).2))⟩
            have hf4 : Fr (fun j => j = w3.heap.size) W3 (W3.setCell ⟨w3.heap.size, 1, none⟩ (.slice A3 (k + 1) c3)) := Fr.setCell (S := fun j => j = w3.heap.size) (Fr.refl _ _) (p := ⟨w3.heap.size, 1, none⟩) (fun _ => rfl) _
            have HGB4' := Aside0.mk (hgb3.fr hf4 HLT.out)
            have HK94 : Aside0 ((W3.setCell ⟨w3.heap.size, 1, none⟩ (.slice A3 (k + 1) c3)).heap[w3.heap.size]? = some (sndObj r A3 (k + 1) c3)) := ⟨by rw [heap_setCell_same _ _ _ _ _ _ hk93]; rfl⟩
            have HRL4 := Aside0.mk (hrl3.fr hf4 (fun j cs t q e => by subst q; rw [hk93] at e; cases e; exact ⟨by decide, by decide⟩))
            have l2 : W2.cell? ⟨w3.heap.size, 1, none⟩ = some (.slice A9 k c9) := by rw [cell_of_row _ _ _ _ _ _ hk92]; rfl
            have l3 : W3.cell? ⟨w3.heap.size, 1, none⟩ = some (.slice A9 k c9) := by rw [cell_of_row _ _ _ _ _ _ hk93]; rfl
            have f3 : W3.frozen? ⟨w3.heap.size, 1, none⟩ = false := blk_frozen hk93 1
            have d2 : decide ((k : Int) < (ls.length : Int)) = true := by simp; omega
            rw [hwm, hxn] at hcp
            have mk1 := HMK.out wr
            have HRUN := Aside0.mk hrun
            clear hrun
            have hsw : (sk < wh ∧ dA = some ⟨wr.heap.size, sk, none⟩) ∨ (wh = sk ∧ dA = some ⟨wr.heap.size, 0, none⟩) := by
              rcases Nat.lt_or_ge sk wh with q | q
              · rw [if_neg (by omega)] at hdA; exact .inl ⟨q, hdA⟩
              · have e : wh = sk := by omega
                rw [if_pos e] at hdA; exact .inr ⟨e, hdA⟩
            clear hdA
            rcases hsw with ⟨hsw, rfl⟩ | ⟨rfl, rfl⟩
            all_goals
              try rw [Nat.sub_self] at hcp
              clear hsl hfc hg2 hc2 hfr2 hrl2 hir hgb2 hk92 hk93 hgb3 hf3 hf4 hown hgm hbm hcl hcur hpl hC0 hrl hk9 htk hrl3 hln3 hsz2 hwm
              go_wp2_with (at_builtin; refine wpList_run_append rfl _ _ _ rfl _ _ rfl rfl HRUN.out ?_)
              exact ⟨⟨k + 1, by simp, hlt, HGB4', ⟨A3, c3, HK94.out, HRL4.out⟩⟩, by simp [intOf]; omega⟩
          · obtain rfl : k = ls.length := by omega
            rw [List.take_length] at hrl
            have l0 : wr.cell? ⟨w3.heap.size, 0, none⟩ = some (.int .i64 r) := by rw [cell_of_row _ _ _ _ _ _ hk9]; rfl
            have l1 : wr.cell? ⟨w3.heap.size, 1, none⟩ = some (.slice A9 ls.length c9) := by rw [cell_of_row _ _ _ _ _ _ hk9]; rfl
            have hgr := HGR2.out
            subst hgr
            have d2 : decide ((ls.length : Int) < (ls.length : Int)) = false := by simp
            have ecut : ((wh - (sk + n0) : Nat) : Int) = (wh : Int) - ((sk : Int) + (n0 : Int)) := by omega
            have HEC := Aside0.mk ecut
            have HRLr := Aside0.mk hrl
            have HK9r := Aside0.mk hk9
            clear hrl hk9 ecut
            have hk5 : Aside0 ((wr.setRow (w.heap.size + 1) #[.int .i64 r, .slice A9 ls.length c9]).heap[w.heap.size + 2]? = some tag0') := ⟨by rw [setRow_other _ _ _ _ (by omega)]; exact HG.out.k5⟩
            have hk4 : Aside0 (((wr.setRow (w.heap.size + 1) #[.int .i64 r, .slice A9 ls.length c9]).setRow (w.heap.size + 2) #[.int .i64 (sk : Int), .int .i64 ((wh : Int) - ((sk : Int) + (n0 : Int))), .slice none 0 0]).heap[w.heap.size + 1]? = some (sndObj r A9 ls.length c9)) := ⟨by rw [setRow_other _ _ _ _ (by omega)]; exact setRow_heap _ _ _ _ _ _ HG.out.k4⟩
            go_wp2_with (first | (refine wpList_store_row rfl _ _ _ rfl (w.heap.size + 1) #[.int .i64 r, .slice A9 ls.length c9] rfl rfl _ _ HG.out.k4 (by kernel_rfl) rfl (by kernel_rfl) ?_) | (refine wpList_store_row rfl _ _ _ rfl (w.heap.size + 2) #[.int .i64 (sk : Int), .int .i64 ((wh : Int) - ((sk : Int) + (n0 : Int))), .slice none 0 0] rfl rfl _ _ hk5.out (by kernel_rfl) rfl (by kernel_rfl) ?_))
            refine bodyPost_ret (results_cct rfl _ _ (w.heap.size + 1) _ #[.int .i64 r, .slice A9 ls.length c9] (0, 0) _ rfl hk4.out Tryd.underlying46 rfl (by kernel_rfl) (w.heap.size + 2) _ #[.int .i64 (sk : Int), .int .i64 ((wh : Int) - ((sk : Int) + (n0 : Int))), .slice none 0 0] (0, 0) _ rfl (setRow_heap _ _ _ _ _ _ hk5.out) Tryd.underlying24 rfl (by kernel_rfl)) rfl ?_
            have hfa : Fr (fun j => j = w.heap.size + 1 ∨ j = w.heap.size + 2) wr ((wr.setRow (w.heap.size + 1) #[.int .i64 r, .slice A9 ls.length c9]).setRow (w.heap.size + 2) #[.int .i64 (sk : Int), .int .i64 ((wh : Int) - ((sk : Int) + (n0 : Int))), .slice none 0 0]) := ((fr_setRow _ _ _).mono (fun k _ h => .inl h)).trans ((fr_setRow _ _ _).mono (fun k _ h => .inr h))
            refine ⟨A9, c9, ?_, ?_, HG.out.bel.trans (hfa.to_below HG.out.bel.size (fun j hj => by omega))⟩
            · dsimp only
              rw [List.length_map, HEC.out]
              rfl
            · dsimp only
              rw [List.length_map]
              exact HRLr.out.fr hfa (fun j cs t q e => by
                rcases q with rfl | rfl
                · rw [HG.out.k4] at e; cases e; exact ⟨by decide, by decide⟩
                · rw [HG.out.k5] at e; cases e; exact ⟨by decide, by decide⟩)
    · rw [if_neg hsk] at hgr
      have HIC := fun W => isCount_any skip W
      rw [show okN skip = false by simpa using hsk] at HIC
      have HIC := Aside0.mk HIC
      subst hgr
      clear his ho hsk hch
      go_enter Tryd.func32, Tryd.ntmps32
      go_wp2_with fail
      rw [← HW1.out]
      refine HIS.out.mono ?_
      rintro e w2 ⟨rfl, hb2⟩
      have HGB2 := Aside0.mk (HGB.out.below hb2)
      clear hb2 z0 z1
      go_wp2_with fail
      refine (HIC.out w2).mono ?_
      rintro e w3 ⟨rfl, hdr⟩
      have HGB3 := Aside0.mk (HGB2.out.below hdr.below)
      clear hdr
      have hk5 : Aside0 ((w3.setRow (w.heap.size + 1) #[.int .i64 0, .slice none 0 0]).heap[w.heap.size + 2]? = some tag0') := ⟨by rw [setRow_other _ _ _ _ (by omega)]; exact HGB3.out.k5⟩
      have hk4 : Aside0 (((w3.setRow (w.heap.size + 1) #[.int .i64 0, .slice none 0 0]).setRow (w.heap.size + 2) #[.int .i64 0, .int .i64 0, .slice none 0 0]).heap[w.heap.size + 1]? = some snd0) := ⟨by rw [setRow_other _ _ _ _ (by omega)]; exact setRow_heap _ _ _ _ _ _ HGB3.out.k4⟩
      go_wp2_with (first | (refine wpList_store_row rfl _ _ _ rfl (w.heap.size + 1) #[.int .i64 0, .slice none 0 0] rfl rfl _ _ HGB3.out.k4 (by kernel_rfl) rfl (by kernel_rfl) ?_) | (refine wpList_store_row rfl _ _ _ rfl (w.heap.size + 2) #[.int .i64 0, .int .i64 0, .slice none 0 0] rfl rfl _ _ hk5.out (by kernel_rfl) rfl (by kernel_rfl) ?_))
      refine bodyPost_ret (results_cct rfl _ _ (w.heap.size + 1) _ #[.int .i64 0, .slice none 0 0] (0, 0) _ rfl hk4.out Tryd.underlying46 rfl (by kernel_rfl) (w.heap.size + 2) _ #[.int .i64 0, .int .i64 0, .slice none 0 0] (0, 0) _ rfl (setRow_heap _ _ _ _ _ _ hk5.out) Tryd.underlying24 rfl (by kernel_rfl)) rfl ?_
      exact ⟨none, 0, rfl, RL.nil w _, HGB3.out.bel.trans (((fr_setRow _ _ _).mono (fun k _ h => h)).to_below HGB3.out.bel.size (fun j hj => by subst hj; omega) |>.trans ((fr_setRow _ _ _).to_below (by simp; exact HGB3.out.bel.size) (fun j hj => by subst hj; omega)))⟩
  · rw [if_neg ho] at hgr
    rw [show okSnd r ls = false by simpa using ho] at his
    have HIS := Aside0.mk his
    subst hgr
    clear his ho
    go_enter Tryd.func32, Tryd.ntmps32
    go_wp2_with fail
    rw [← HW1.out]
    refine HIS.out.mono ?_
    rintro e w2 ⟨rfl, hb2⟩
    have HGB2 := Aside0.mk (HGB.out.below hb2)
    clear hb2 z0 z1
    have hk5 : Aside0 ((w2.setRow (w.heap.size + 1) #[.int .i64 0, .slice none 0 0]).heap[w.heap.size + 2]? = some tag0') := ⟨by rw [setRow_other _ _ _ _ (by omega)]; exact HGB2.out.k5⟩
    have hk4 : Aside0 (((w2.setRow (w.heap.size + 1) #[.int .i64 0, .slice none 0 0]).setRow (w.heap.size + 2) #[.int .i64 0, .int .i64 0, .slice none 0 0]).heap[w.heap.size + 1]? = some snd0) := ⟨by rw [setRow_other _ _ _ _ (by omega)]; exact setRow_heap _ _ _ _ _ _ HGB2.out.k4⟩
    go_wp2_with (first | (refine wpList_store_row rfl _ _ _ rfl (w.heap.size + 1) #[.int .i64 0, .slice none 0 0] rfl rfl _ _ HGB2.out.k4 (by kernel_rfl) rfl (by kernel_rfl) ?_) | (refine wpList_store_row rfl _ _ _ rfl (w.heap.size + 2) #[.int .i64 0, .int .i64 0, .slice none 0 0] rfl rfl _ _ hk5.out (by kernel_rfl) rfl (by kernel_rfl) ?_))
    refine bodyPost_ret (results_cct rfl _ _ (w.heap.size + 1) _ #[.int .i64 0, .slice none 0 0] (0, 0) _ rfl hk4.out Tryd.underlying46 rfl (by kernel_rfl) (w.heap.size + 2) _ #[.int .i64 0, .int .i64 0, .slice none 0 0] (0, 0) _ rfl (setRow_heap _ _ _ _ _ _ hk5.out) Tryd.underlying24 rfl (by kernel_rfl)) rfl ?_
    exact ⟨none, 0, rfl, RL.nil w _, HGB2.out.bel.trans (((fr_setRow _ _ _).mono (fun k _ h => h)).to_below HGB2.out.bel.size (fun j hj => by subst hj; omega) |>.trans ((fr_setRow _ _ _).to_below (by simp; exact HGB2.out.bel.size) (fun j hj => by subst hj; omega)))⟩
end Go.Proofs.YthlmnnjbpikijaaDoor.P
end
section
namespace Go.Proofs.YthlmnnjbpikijaaDoor.P
open Go.RowKit Go.Shelf Go.Proofs.YthlmnnjbpikijaaDoor.Bits Go.Proofs.YthlmnnjbpikijaaDoorW.PrintWords Go.Proofs.YthlmnnjbpikijaaDoorW.PrintLast Go.Proofs.YthlmnnjbpikijaaDoorW.PrintMore
set_option linter.unusedVariables false
set_option linter.unusedSimpArgs false
attribute [local go_sem ↓] Go.wp_at_zero Go.wp_at_succ
theorem flatI_append (a b : List Int) : flatI (a ++ b) = flatI a ++ flatI b := by simp [flatI]
theorem rowI_append (W : World) (base : Nat) (v : Value) (l x : List Int) (ad : Addr) (c : Nat) (h : RowV W base 3 1 v l.length (flatI l)) (hC : Kd.C (Kd.int .i64) W (some ad) x.length x) (hl : l.length + x.length ≤ 1000000001) (hb : base ≤ W.heap.size) :
    ∃ v1 w1, (Builtin.append_ #[59, 59] 59 #[v, .slice (some ad) x.length c]).run Tryd.prog W = .ok v1 w1 ∧ RowV w1 base 3 1 v1 (l ++ x).length (flatI (l ++ x)) ∧ W.grownBy w1 v.ownBlock := by
  obtain ⟨i0, hi, hzz⟩ := Option.map_eq_some_iff.1 info3
  simp only [Prod.mk.injEq] at hzz
  obtain ⟨hz0, hz1, hz2⟩ := hzz
  obtain ⟨v1, w1, hr, h2, h3, _, _⟩ := run_append_own_at (P := Tryd.prog) W base 59 59 3 i0 _ 1 8 Tryd.underlying59 hi hz0 hz1 hz2 rfl (by omega) v l.length (flatI l) h ad x.length c (flatI x) (by simp [flatI])
    (fun j u hu => by
      have hj : j < x.length := by
        rcases Nat.lt_or_ge j x.length with h | h
        · exact h
        · rw [List.getElem?_eq_none (by simp [flatI]; omega)] at hu; cases hu
      obtain ⟨ad', e, hc⟩ := at_i64 hC j hj
      cases e
      rw [hc, ← hu]
      simp [flatI, hj])
    (by intro u hu; unfold flatI at hu; obtain ⟨y, _, rfl⟩ := List.mem_map.1 hu; rfl) (by simp only [maxLen]; omega) (by omega) hb
  refine ⟨v1, w1, hr, ?_, h3⟩
  rw [flatI_append, List.length_append]
  exact h2
theorem IR.of_rowV {w : World} {base n c : Nat} {A : Option Addr} {x : List Int} (h : RowV w base 3 1 (.slice A n c) n (flatI x)) (hn : n = x.length) (hx : x.length ≤ 1000000000) : IR w A x ∧ x.length ≤ c := by
  subst hn
  rcases h.2 with ⟨hv, h0⟩ | ⟨g, cap, cur, hv, hb, hg, hc, hm, hs, ht⟩
  · injection hv with e1 e2 e3
    subst e1
    have h0' : x = [] := List.eq_nil_of_length_eq_zero h0
    subst h0'
    exact ⟨⟨⟨rfl, by simp, fun q => absurd q (by simp)⟩, fun ad e => by cases e⟩, Nat.zero_le _⟩
  · cases hv
    refine ⟨⟨Kd.C_of_reads (enc := Value.int .i64) (d := (0 : Int)) (h1 := fun _ => rfl) ⟨rfl, by omega, fun _ => ⟨_, rfl, fun j hj => ?_⟩⟩, fun ad e => by cases e; exact ⟨cur, hg⟩⟩, hc⟩
    rw [show (⟨g, 0, none⟩ : Addr).add j = ⟨g, j, none⟩ by simp [Addr.add_lit], cell_of_row _ _ _ _ _ _ hg]
    have h1 : (flatI x)[j]? = some (.int .i64 (x.getD j 0)) := by simp [flatI, hj, List.getD_eq_getElem?_getD]
    rw [← ht, List.getElem?_take] at h1
    split at h1
    · simpa using h1
    · cases h1
def CloneIPost (w : World) (x : List Int) (e : Ending) (w' : World) : Prop := ∃ A c, e = .returned (.slice A x.length c) ∧ x.length ≤ c ∧ IR w' A x ∧ Below w.heap.size w w'
set_option maxHeartbeats 400000 in
theorem CloneI_any (A : Option Addr) (c : Nat) (x : List Int) (w : World) (h : Kd.C (Kd.int .i64) w A x.length x) (hx : x.length ≤ 1000000000) :
    Calls Tryd.prog 55 #[.slice A x.length c] w (CloneIPost w x) := by
  have qT : ∀ (w : World) (a : Option Addr) (n c n' c' : Nat), (binOp .eql 59 (.slice a n c) (.slice none n' c')).run Tryd.prog w = .ok (.bool a.isNone) w := fun w a n c n' c' => Lib.run_eql_slice_nil w _ _ a n c n' c' Tryd.underlying59
  cases A with
  | none =>
    have hz : x = [] := by
      rcases Nat.eq_zero_or_pos x.length with h0 | h0
      · exact List.eq_nil_of_length_eq_zero h0
      · obtain ⟨ad, e, _⟩ := at_i64 h 0 (by omega)
        cases e
    subst hz
    go_enter Tryd.func55, Tryd.ntmps55
    go_wp2
    go_ret
    exact ⟨none, 0, rfl, Nat.zero_le _, ⟨⟨rfl, by simp, fun q => absurd q (by simp)⟩, fun ad e => by cases e⟩, Below.refl _ _⟩
  | some ad =>
    obtain ⟨w1, hw1⟩ : ∃ w1, w1 = w.alloc (.cells #[] 3 (0, 0)) := ⟨_, rfl⟩
    have hb1 : Below w.heap.size w w1 := by rw [hw1]; exact below_alloc (Below.refl _ _) _
    have hr1 : RowV w1 w.heap.size 3 1 (.slice (some ⟨w.heap.size, 0, none⟩) 0 0) ([] : List Int).length (flatI []) := ⟨rfl, .inr ⟨w.heap.size, 0, #[], rfl, Nat.le_refl _, by rw [hw1]; exact World.alloc_heap_new w _, Nat.le_refl _, Nat.zero_le _, rfl, rfl⟩⟩
    obtain ⟨v2, w2, hrun, hr2, hg2⟩ := rowI_append w1 w.heap.size _ [] x ad c hr1 (Kd.C_below h hb1) (by simp; omega) hb1.size
    have hb2 : Below w.heap.size w w2 := hb1.grown hg2 hb1.size (fun k e => by cases e; exact Nat.le_refl _)
    rw [hw1] at hrun
    obtain ⟨A2, c2, rfl⟩ := RowV.slice hr2
    obtain ⟨hir, hxc⟩ := IR.of_rowV hr2 (by simp) hx
    have HRUN := Aside0.mk hrun
    have HIR := Aside0.mk hir
    have HB2 := Aside0.mk hb2
    have HXC := Aside0.mk hxc
    clear hb1 hr1 hrun hr2 hg2 hw1 hb2 h hir hxc
    go_enter Tryd.func55, Tryd.ntmps55
    go_wp2_with (at_builtin; refine wpList_run_append rfl _ _ _ rfl _ _ rfl rfl HRUN.out ?_)
    go_ret
    exact ⟨A2, c2, rfl, HXC.out, HIR.out, HB2.out⟩
theorem exec_append {P : Program} {o : Oper} {a : Act} {W w1 : World} {v1 : Value} (s x : Operand) (t : TypeId)
    (ho : o.op = .call { callee := .builtin .append, args := #[s, x], argTypes := #[t, t] }) (v y : Value) (hs : a.eval s = v) (hx : a.eval x = y) (hrun : (Builtin.append_ #[t, t] o.type #[v, y]).run P W = .ok v1 w1) : (execOp a.eval o).run P W = .ok (.value v1) w1 := by
  unfold execOp
  simp only [ho, resolve, invoke, builtin, Sem.run_bind, Sem.run_pure, Result.andThen_ok, List.map_toArray, List.map_cons, List.map_nil, hs, hx, hrun]
def cutR (a b : Nat) (x : List Int) : List Int := (x.take b).drop a
def fTrim (r : Int) (ls : List (List Int)) (t : TG) : Int × List (List Int) × Int :=
  if okSnd r ls = true ∧ okT t = true then
    if ((lth ls 0).length : Int) < t.skip + t.cut then (0, [], 6) else (r, ls.map (cutR t.skip.toNat ((lth ls 0).length - t.cut.toNat)), 0)
  else (0, [], 1)
def TrimPost (w : World) (g : Int × List (List Int) × Int) (e : Ending) (w' : World) : Prop :=
  ∃ A c, e = .returned (.tuple #[sndV g.1 A g.2.1.length c, .int .i64 g.2.2]) ∧ RL w w' (.slice A g.2.1.length c) g.2.1 ∧ Below w.heap.size w w'
/-- The blocks of the results. -/
structure TB (w W : World) (t : TG) (A : Option Addr) (c : Nat) : Prop where
  k3 : W.heap[w.heap.size + 1]? = some (tagObj t.skip t.cut A t.fs.length c)
  k4 : W.heap[w.heap.size + 2]? = some snd0
  bel : Below w.heap.size w W
theorem TB.below {w W W' : World} {t : TG} {A : Option Addr} {c : Nat} (h : TB w W t A c) (hb : Below W.heap.size W W') : TB w W' t A c := ⟨(hb.block _ (lt_of_block h.k3)).trans h.k3, (hb.block _ (lt_of_block h.k4)).trans h.k4, h.bel.trans (hb.mono h.bel.size)⟩
theorem TB.fr {w W W' : World} {t : TG} {A : Option Addr} {c : Nat} {g : Nat} (h : TB w W t A c) (hf : Fr (fun k => k = g) W W') (hg : w.heap.size + 2 < g) : TB w W' t A c := ⟨blk_fr h.k3 hf (by omega), blk_fr h.k4 hf (by omega), h.bel.trans (hf.to_below h.bel.size (fun j hj => by omega))⟩
set_option maxHeartbeats 8000000 in
set_option maxRecDepth 100000 in
theorem Trim_any (r : Int) (A : Option Addr) (c : Nat) (ls : List (List Int)) (t : TG) (Af : Option Addr) (cf : Nat) (w : World) (h : CD w A c ls) (hf : FD w Af cf t.fs) (hg : HG w) :
    Calls Tryd.prog 30 #[sndV r A ls.length c, tagV t.skip t.cut Af t.fs.length cf] w (TrimPost w (fTrim r ls t)) := by
  obtain ⟨w1, hw1⟩ : ∃ w1, w1 = ((w.alloc (sndObj r A ls.length c)).alloc (tagObj t.skip t.cut Af t.fs.length cf)).alloc snd0 := ⟨_, rfl⟩
  have hb1 : Below w.heap.size w w1 := by rw [hw1]; exact below_alloc (below_alloc (below_alloc (Below.refl _ _) _) _) _
  have hx1 : w1.heap[w.heap.size]? = some (sndObj r A ls.length c) := by rw [hw1]; exact blk_alloc' (blk_alloc' (World.alloc_heap_new w _) _) _
  have hTB : TB w w1 t Af cf := ⟨by rw [hw1]; have := World.alloc_heap_new (w.alloc (sndObj r A ls.length c)) (tagObj t.skip t.cut Af t.fs.length cf); exact blk_alloc' (by simpa using this) _, by rw [hw1]; have := World.alloc_heap_new ((w.alloc (sndObj r A ls.length c)).alloc (tagObj t.skip t.cut Af t.fs.length cf)) snd0; simpa using this, hb1⟩
  have his := isSound_any r A c ls w1 (h.below hb1) (hg.below hb1)
  have HTB := Aside0.mk hTB
  have HX1 := Aside0.mk hx1
  have HW1 := Aside0.mk hw1
  have HCD := Aside0.mk h
  have HFD := Aside0.mk hf
  have HCH := Aside0.mk (fun W hW => Check_any t Af cf W hW)
  obtain ⟨gr, hgr⟩ : ∃ gr, fTrim r ls t = gr := ⟨_, rfl⟩
  rw [hgr]
  unfold fTrim at hgr
  have z0 : w1.cell? ⟨w.heap.size, 0, none⟩ = some (.int .i64 r) := by rw [cell_of_row _ _ _ _ _ _ hx1]; rfl
  have z1 : w1.cell? ⟨w.heap.size, 1, none⟩ = some (.slice A ls.length c) := by rw [cell_of_row _ _ _ _ _ _ hx1]; rfl
  clear hb1 hx1 hTB hw1 h hg hf
  by_cases ho : okSnd r ls = true
  · rw [ho] at his hgr
    have HIS := Aside0.mk his
    obtain ⟨-, ⟨hn1, hn2⟩, hch⟩ := (okSnd_iff r ls).1 ho
    by_cases hok : okT t = true
    · rw [hok] at HCH hgr
      rw [if_pos ⟨rfl, rfl⟩] at hgr
      rw [if_pos rfl] at HCH
      have htk : okN t.skip = true ∧ okN t.cut = true := by
        unfold okT at hok
        simp only [Bool.and_eq_true] at hok
        exact ⟨hok.1.1.1, hok.1.1.2⟩
      obtain ⟨ts, tu, tf⟩ := t
      dsimp only at *
      unfold okN at htk
      simp only [decide_eq_true_eq] at htk
      obtain ⟨htk1, htk2⟩ := htk
      obtain ⟨sk, rfl⟩ : ∃ sk : Nat, ts = (sk : Int) := ⟨ts.toNat, by omega⟩
      obtain ⟨cu, rfl⟩ : ∃ cu : Nat, tu = (cu : Int) := ⟨tu.toNat, by omega⟩
      rw [Int.toNat_natCast, Int.toNat_natCast] at hgr
      obtain ⟨n0, hn0⟩ : ∃ n, (lth ls 0).length = n := ⟨_, rfl⟩
      have hn08 : n0 ≤ 8192 := by
        have := hch 0 (by omega)
        unfold okCh at this
        simp only [Bool.and_eq_true, decide_eq_true_eq] at this
        omega
      rw [hn0] at hgr
      have HGR := Aside0.mk hgr
      have HN0 := Aside0.mk hn0
      have HCHS := Aside0.mk hch
      clear his ho hgr hn0 hch hok
      go_enter Tryd.func30, Tryd.ntmps30
      go_wp2_with fail
      rw [← HW1.out]
      refine HIS.out.mono ?_
      rintro e w2 ⟨rfl, hb2⟩
      have HTB2 := Aside0.mk (HTB.out.below hb2)
      have hx2 := (hb2.block _ (lt_of_block HX1.out)).trans HX1.out
      have HX2 := Aside0.mk hx2
      have t0 : w2.cell? ⟨w.heap.size + 1, 0, none⟩ = some (.int .i64 (sk : Int)) := by rw [cell_of_row _ _ _ _ _ _ HTB2.out.k3]; rfl
      have t1 : w2.cell? ⟨w.heap.size + 1, 1, none⟩ = some (.int .i64 (cu : Int)) := by rw [cell_of_row _ _ _ _ _ _ HTB2.out.k3]; rfl
      have t2 : w2.cell? ⟨w.heap.size + 1, 2, none⟩ = some (.slice Af tf.length cf) := by rw [cell_of_row _ _ _ _ _ _ HTB2.out.k3]; rfl
      clear hb2 hx2 z0 z1
      go_wp2_with fail
      refine (HCH.out w2 (HFD.out.below HTB2.out.bel)).mono ?_
      rintro e w3 ⟨rfl, hb3⟩
      have HTB3 := Aside0.mk (HTB2.out.below hb3)
      have hx3 := (hb3.block _ (lt_of_block HX2.out)).trans HX2.out
      have x0 : w3.cell? ⟨w.heap.size, 0, none⟩ = some (.int .i64 r) := by rw [cell_of_row _ _ _ _ _ _ hx3]; rfl
      have x1 : w3.cell? ⟨w.heap.size, 1, none⟩ = some (.slice A ls.length c) := by rw [cell_of_row _ _ _ _ _ _ hx3]; rfl
      have t0 : w3.cell? ⟨w.heap.size + 1, 0, none⟩ = some (.int .i64 (sk : Int)) := by rw [cell_of_row _ _ _ _ _ _ HTB3.out.k3]; rfl
      have t1 : w3.cell? ⟨w.heap.size + 1, 1, none⟩ = some (.int .i64 (cu : Int)) := by rw [cell_of_row _ _ _ _ _ _ HTB3.out.k3]; rfl
      have HCD3 := Aside0.mk (HCD.out.below HTB3.out.bel)
      obtain ⟨ad, A00, c00, rfl, h00, hc00, -, hl00⟩ := HCD3.out.at 0 (by omega)
      have h00' : w3.cell? ad = some (.slice A00 (lth ls 0).length c00) := by simpa [Addr.add] using h00
      rw [HN0.out] at h00 h00' hl00 hc00
      have HX3 := Aside0.mk hx3
      clear hb3 hx3 HX2
      have hgr := HGR.out
      by_cases hbig : (n0 : Int) < (sk : Int) + (cu : Int)
      · rw [if_pos hbig] at hgr
        have d1 : decide ((n0 : Int) < (sk : Int) + (cu : Int)) = true := by simp; omega
        subst hgr
        go_wp2_with (refine wpList_store_row rfl _ _ _ rfl (w.heap.size + 2) #[.int .i64 0, .slice none 0 0] rfl rfl _ _ HTB3.out.k4 (by kernel_rfl) rfl (by kernel_rfl) ?_)
        refine bodyPost_ret (results_ct rfl _ _ (w.heap.size + 2) _ #[.int .i64 0, .slice none 0 0] (0, 0) _ rfl (setRow_heap _ _ _ _ _ _ HTB3.out.k4) Tryd.underlying46 rfl (by kernel_rfl)) rfl ?_
        exact ⟨none, 0, rfl, RL.nil w _, HTB3.out.bel.trans ((fr_setRow _ _ _).to_below HTB3.out.bel.size (fun j hj => by subst hj; omega))⟩
      · rw [if_neg hbig] at hgr
        have d1 : decide ((n0 : Int) < (sk : Int) + (cu : Int)) = false := by simp; omega
        have HGR2 := Aside0.mk hgr
        have HFIT : Aside0 (sk + cu ≤ n0) := ⟨by omega⟩
        obtain ⟨w4, hw4⟩ : ∃ w4, w4 = w3.alloc (sndObj r none 0 0) := ⟨_, rfl⟩
        have hb4 : Below w3.heap.size w3 w4 := by rw [hw4]; exact below_alloc (Below.refl _ _) _
        have HTB4 := Aside0.mk (HTB3.out.below hb4)
        have HK9 : Aside0 (w4.heap[w3.heap.size]? = some (sndObj r none 0 0)) := ⟨by rw [hw4]; exact World.alloc_heap_new w3 _⟩
        have HLT : Aside0 (w.heap.size + 2 < w3.heap.size) := ⟨lt_of_block HTB3.out.k4⟩
        have HW4 := Aside0.mk hw4
        have hx4 := (hb4.block _ (lt_of_block HX3.out)).trans HX3.out
        have y1 : (w3.alloc (sndObj r none 0 0)).cell? ⟨w.heap.size, 1, none⟩ = some (.slice (some ad) ls.length c) := by rw [← hw4, cell_of_row _ _ _ _ _ _ hx4]; rfl
        clear hgr hb4 hw4 hx4
        go_wp2_with fail
        rw [← HW4.out]
        go_loopw [38] (fun u wr => ∃ k : Nat, u = .int .i64 (k : Int) ∧ k ≤ ls.length ∧ Aside0 (TB w wr ⟨sk, cu, tf⟩ Af cf) ∧ Aside0 (∃ A9 c9, wr.heap[w3.heap.size]? = some (sndObj r A9 k c9) ∧ RL w wr (.slice A9 k c9) ((ls.take k).map (cutR sk (n0 - cu))))) (fun u _ => ls.length - (intOf u).toNat)
        case atStart => exact ⟨0, rfl, Nat.zero_le _, HTB4, ⟨none, 0, HK9.out, RL.nil w _⟩⟩
        case round =>
          obtain ⟨k, rfl, hk, HG, HR9⟩ := hrel
          obtain ⟨A9, c9, hk9, hrl⟩ := HR9.out
          by_cases hlt : k < ls.length
          · obtain ⟨ad', A0, c0, e, hkc, hc0, hC0, hl0⟩ := (HCD.out.below HG.out.bel).at k hlt
            cases e
            have hxn : (lth ls k).length = n0 := by
              have := HCHS.out k hlt
              unfold okCh at this
              simp only [Bool.and_eq_true, decide_eq_true_eq] at this
              rw [this.1.1, HN0.out]
            have htk : (ls.take (k + 1)).map (cutR sk (n0 - cu)) = (ls.take k).map (cutR sk (n0 - cu)) ++ [cutR sk (n0 - cu) (lth ls k)] := by
              rw [List.take_succ_eq_append_getElem hlt, List.map_append]
              unfold lth
              rw [List.getD_eq_getElem?_getD, List.getElem?_eq_getElem hlt]
              rfl
            obtain ⟨x, hx⟩ : ∃ x, lth ls k = x := ⟨_, rfl⟩
            rw [hx] at hkc hc0 hC0 hl0 hxn htk
            obtain ⟨i3, hi3, hzz⟩ := Option.map_eq_some_iff.1 info3
            simp only [Prod.mk.injEq] at hzz
            have hfit := HFIT.out
            obtain ⟨A5, hcut5, hA5, hC5⟩ := print_mid_of (P := Tryd.prog) (Value.int .i64) 0 59 3 .i64 .i64 Tryd.underlying59 hi3 hzz.2.1 A0 c0 x (sk : Int) ((n0 - cu : Nat) : Int) (by omega) (by omega) (by omega) hc0
            have hcC : Kd.C (Kd.int .i64) wr A5 (cutR sk (n0 - cu) x).length (cutR sk (n0 - cu) x) := Kd.C_of_reads (h1 := fun _ => rfl) (hA5 _ (Kd.reads_of_C hC0))
            have eI : ((n0 - cu : Nat) : Int) = wrap64 ((n0 : Int) - (cu : Int)) := by rw [wrap64_id (by omega) (by omega)]; omega
            rw [eI] at hcut5
            rw [show ((x.take ((n0 - cu : Nat) : Int).toNat).drop (sk : Int).toNat) = cutR sk (n0 - cu) x by simp [cutR]] at hC5
            rw [show ((x.take (wrap64 ((n0 : Int) - (cu : Int))).toNat).drop (sk : Int).toNat) = cutR sk (n0 - cu) x by rw [← eI]; simp [cutR]] at hcut5
            obtain ⟨y, hy⟩ : ∃ y, cutR sk (n0 - cu) x = y := ⟨_, rfl⟩
            rw [hy] at hcC hcut5 hC5 htk
            have hyl : y.length ≤ 8192 := by rw [← hy]; unfold cutR; rw [List.length_drop, List.length_take]; omega
            obtain ⟨c5, hc5⟩ : ∃ c5, c0 - (sk : Int).toNat = c5 := ⟨_, rfl⟩
            rw [hc5] at hC5 hcut5
            rw [hxn] at hcut5
            have HCY := Aside0.mk hcC
            have HCUT := Aside0.mk hcut5
            have HTK := Aside0.mk htk
            have HRL := Aside0.mk hrl
            have HK9r := Aside0.mk hk9
            have d2 : decide ((k : Int) < (ls.length : Int)) = true := by simp; omega
            clear hcut5 hcC htk hrl hk9 hi3 hzz hA5 hC0
            go_wp2_with fail
            obtain ⟨wd, hwd⟩ : ∃ wd, wd = wr.drew := ⟨_, rfl⟩
            have hbd : Below wr.heap.size wr wd := by rw [hwd]; exact below_drew (Below.refl _ _)
            have htbd := HG.out.below hbd
            have hk9d : wd.heap[w3.heap.size]? = some (sndObj r A9 k c9) := (hbd.block _ (lt_of_block HK9r.out)).trans HK9r.out
            have hrld := HRL.out.below hbd
            have hcyd := Kd.C_below HCY.out hbd
            refine start_ (n := 15) (S := (fun w' => w'.cell? ⟨w3.heap.size, 1, none⟩ = some (.slice A9 k c9) ∧ w'.cell? ⟨w.heap.size + 1, 0, none⟩ = some (.int .i64 (sk : Int)) ∧ w'.cell? ⟨w.heap.size + 1, 1, none⟩ = some (.int .i64 (cu : Int)))) (ds := [14]) #[false, false, false, false, false, false, false, false, false, false, false, false, false, false, false] (by kernel_rfl) rfl rfl ⟨by rw [← hwd, cell_of_row _ _ _ _ _ _ hk9d]; rfl, by rw [← hwd, cell_of_row _ _ _ _ _ _ htbd.k3]; rfl, by rw [← hwd, cell_of_row _ _ _ _ _ _ htbd.k3]; rfl⟩ (fun hHeld => ?_)
            rw [← hwd] at hHeld ⊢
            refine take_ (i := 0) (N := some 42) (v := ?_) (a' := ?_) #[true, false, false, false, false, false, false, false, false, false, false, false, false, false, false] rfl rfl (by kernel_rfl) (fun _ _ _ h => h) (Or.inl ⟨by rfl, ?_⟩) hHeld ?_ ?_
            rotate_left
            · (intro w hSw; (try dsimp only at hSw); go_simp; (try with_reducible rfl))
            rotate_left
            · (try simp only [Act.put, List.setIfInBounds_toArray, List.set_cons_zero, List.set_cons_succ, i64_w, i32_w])
              rfl
            refine take_ (i := 1) (N := some 43) (v := ?_) (a' := ?_) #[true, true, false, false, false, false, false, false, false, false, false, false, false, false, false] rfl rfl (by kernel_rfl) (fun _ _ _ h => h) (Or.inl ⟨by rfl, ?_⟩) hHeld ?_ ?_
            rotate_left
            · (intro w hSw; (try dsimp only at hSw); obtain ⟨z1, z2, z3⟩ := hSw; go_simp; (try with_reducible rfl))
            rotate_left
            · (try simp only [Act.put, List.setIfInBounds_toArray, List.set_cons_zero, List.set_cons_succ, i64_w, i32_w])
              rfl
            refine take_ (i := 2) (N := some 44) (v := ?_) (a' := ?_) #[true, true, true, false, false, false, false, false, false, false, false, false, false, false, false] rfl rfl (by kernel_rfl) (fun _ _ _ h => h) (Or.inl ⟨by rfl, ?_⟩) hHeld ?_ ?_
            rotate_left
            · (intro w hSw; (try dsimp only at hSw); go_simp; (try with_reducible rfl))
            rotate_left
            · (try simp only [Act.put, List.setIfInBounds_toArray, List.set_cons_zero, List.set_cons_succ, i64_w, i32_w])
              rfl
            refine take_ (i := 3) (N := some 45) (v := ?_) (a' := ?_) #[true, true, true, true, false, false, false, false, false, false, false, false, false, false, false] rfl rfl (by kernel_rfl) (fun _ _ _ h => h) (Or.inl ⟨by rfl, ?_⟩) hHeld ?_ ?_
            rotate_left
            · (intro w hSw; (try dsimp only at hSw); go_simp; (try with_reducible rfl))
            rotate_left
            · (try simp only [Act.put, List.setIfInBounds_toArray, List.set_cons_zero, List.set_cons_succ, i64_w, i32_w])
              rfl
            refine take_ (i := 4) (N := some 46) (v := ?_) (a' := ?_) #[true, true, true, true, true, false, false, false, false, false, false, false, false, false, false] rfl rfl (by kernel_rfl) (fun _ _ _ h => h) (Or.inl ⟨by rfl, ?_⟩) hHeld ?_ ?_
            rotate_left
            · (intro w hSw; (try dsimp only at hSw); obtain ⟨z1, z2, z3⟩ := hSw; go_simp; (try with_reducible rfl))
            rotate_left
            · (try simp only [Act.put, List.setIfInBounds_toArray, List.set_cons_zero, List.set_cons_succ, i64_w, i32_w])
              rfl
            refine take_ (i := 5) (N := some 47) (v := ?_) (a' := ?_) #[true, true, true, true, true, true, false, false, false, false, false, false, false, false, false] rfl rfl (by kernel_rfl) (fun _ _ _ h => h) (Or.inl ⟨by rfl, ?_⟩) hHeld ?_ ?_
            rotate_left
            · (intro w hSw; (try dsimp only at hSw); go_simp; (try with_reducible rfl))
            rotate_left
            · (try simp only [Act.put, List.setIfInBounds_toArray, List.set_cons_zero, List.set_cons_succ, i64_w, i32_w])
              rfl
            refine take_ (i := 6) (N := some 48) (v := ?_) (a' := ?_) #[true, true, true, true, true, true, true, false, false, false, false, false, false, false, false] rfl rfl (by kernel_rfl) (fun _ _ _ h => h) (Or.inl ⟨by rfl, ?_⟩) hHeld ?_ ?_
            rotate_left
            · (intro w hSw; (try dsimp only at hSw); go_simp; (try with_reducible rfl))
            rotate_left
            · (try simp only [Act.put, List.setIfInBounds_toArray, List.set_cons_zero, List.set_cons_succ, i64_w, i32_w])
              rfl
            refine take_ (i := 7) (N := some 49) (v := ?_) (a' := ?_) #[true, true, true, true, true, true, true, true, false, false, false, false, false, false, false] rfl rfl (by kernel_rfl) (fun _ _ _ h => h) (Or.inl ⟨by rfl, ?_⟩) hHeld ?_ ?_
            rotate_left
            · (intro w hSw; (try dsimp only at hSw); obtain ⟨z1, z2, z3⟩ := hSw; go_simp; (try with_reducible rfl))
            rotate_left
            · (try simp only [Act.put, List.setIfInBounds_toArray, List.set_cons_zero, List.set_cons_succ, i64_w, i32_w])
              rfl
            refine take_ (i := 8) (N := some 50) (v := ?_) (a' := ?_) #[true, true, true, true, true, true, true, true, true, false, false, false, false, false, false] rfl rfl (by kernel_rfl) (fun _ _ _ h => h) (Or.inl ⟨by rfl, ?_⟩) hHeld ?_ ?_
            rotate_left
            · (intro w hSw; (try dsimp only at hSw); go_simp; (try with_reducible rfl))
            rotate_left
            · (try simp only [Act.put, List.setIfInBounds_toArray, List.set_cons_zero, List.set_cons_succ, i64_w, i32_w])
              rfl
            refine take_ (i := 9) (N := some 51) (v := ?_) (a' := ?_) #[true, true, true, true, true, true, true, true, true, true, false, false, false, false, false] rfl rfl (by kernel_rfl) (fun _ _ _ h => h) (Or.inl ⟨by rfl, ?_⟩) hHeld ?_ ?_
            rotate_left
            · (intro w hSw; (try dsimp only at hSw); have hs := HCUT.out; go_simp; (try with_reducible rfl))
            rotate_left
            · (try simp only [Act.put, List.setIfInBounds_toArray, List.set_cons_zero, List.set_cons_succ, i64_w, i32_w])
              rfl
            refine one_ (i := 10) (N := some 52) #[true, true, true, true, true, true, true, true, true, true, true, false, false, false, false] rfl rfl (by kernel_rfl) (by decide) (fun K hK => ?_)
            refine goes_ Tryd.func55 (by kernel_rfl) rfl #[.slice A5 y.length c5] (by rfl) rfl rfl (by (try simp only [List.map_toArray, List.map_cons, List.map_nil]); rfl) ?_
            refine (CloneI_any A5 c5 y wd hcyd (by omega)).mono ?_
            rintro e we ⟨A6, c6, rfl, hc6, hir6, hbe⟩
            refine ⟨_, rfl, ?_⟩
            have htbe := htbd.below hbe
            have hk9e := (hbe.block _ (lt_of_block hk9d)).trans hk9d
            have hrle := hrld.below hbe
            refine hK.out _ _ (⟨by rw [cell_of_row _ _ _ _ _ _ hk9e]; rfl, by rw [cell_of_row _ _ _ _ _ _ htbe.k3]; rfl, by rw [cell_of_row _ _ _ _ _ _ htbe.k3]; rfl⟩) (fun hHeld => ?_)
            clear hK K
            refine norm_ (a' := ?_) ?_ ?_
            rotate_left
            · show Act.put _ (some 52) _ = _
              (try simp only [Act.put, List.setIfInBounds_toArray, List.set_cons_zero, List.set_cons_succ, i64_w, i32_w])
              rfl
            refine one_ (i := 11) (N := some 53) #[true, true, true, true, true, true, true, true, true, true, true, true, false, false, false] rfl rfl (by kernel_rfl) (by decide) (fun K hK => ?_)
            refine value_ (w1 := we.alloc (.cells #[.slice A6 y.length c6] 59 (0, 0))) (v := .slice (some ⟨we.heap.size, 0, none⟩) 1 1) (by rfl) rfl (by go_simp) ?_
            refine hK.out _ _ (⟨by rw [cell_of_row _ _ _ _ _ _ (blk_alloc' hk9e _)]; rfl, by rw [cell_of_row _ _ _ _ _ _ (blk_alloc' htbe.k3 _)]; rfl, by rw [cell_of_row _ _ _ _ _ _ (blk_alloc' htbe.k3 _)]; rfl⟩) (fun hHeld => ?_)
            clear hK K
            refine norm_ (a' := ?_) ?_ ?_
            rotate_left
            · show Act.put _ (some 53) _ = _
              (try simp only [Act.put, List.setIfInBounds_toArray, List.set_cons_zero, List.set_cons_succ, i64_w, i32_w])
              rfl
            obtain ⟨v3, W3, hrun, hrl3, hf3⟩ := hrle.app htbe.bel.size y A6 c6 hir6 hc6 (by rw [List.length_map, List.length_take]; omega)
            rw [← HTK.out] at hrl3
            obtain ⟨A3, c3, ev3⟩ := hrl3.slice
            subst ev3
            have hln3 : ((ls.take (k + 1)).map (cutR sk (n0 - cu))).length = k + 1 := by simp; omega
            rw [hln3] at hrun hrl3
            have hown := hrle.block
            have hk93 : W3.heap[w3.heap.size]? = some (sndObj r A9 k c9) := blk_fr hk9e hf3 (fun q => by obtain ⟨⟨cs, hc⟩, _⟩ := hown _ q; rw [hk9e] at hc; cases hc)
            have htb3 : TB w W3 ⟨sk, cu, tf⟩ Af cf := ⟨blk_fr htbe.k3 hf3 (fun q => by obtain ⟨⟨cs, hc⟩, _⟩ := hown _ q; rw [htbe.k3] at hc; cases hc), blk_fr htbe.k4 hf3 (fun q => by obtain ⟨⟨cs, hc⟩, _⟩ := hown _ q; rw [htbe.k4] at hc; cases hc), htbe.bel.trans (hf3.to_below htbe.bel.size (fun j q => (hown j q).2))⟩
            have hf4 : Fr (fun j => j = w3.heap.size) W3 (W3.setCell ⟨w3.heap.size, 1, none⟩ (.slice A3 (k + 1) c3)) := Fr.setCell (S := fun j => j = w3.heap.size) (Fr.refl _ _) (p := ⟨w3.heap.size, 1, none⟩) (fun _ => rfl) _
            have HTB4' := Aside0.mk (htb3.fr hf4 HLT.out)
            have HK94 : Aside0 ((W3.setCell ⟨w3.heap.size, 1, none⟩ (.slice A3 (k + 1) c3)).heap[w3.heap.size]? = some (sndObj r A3 (k + 1) c3)) := ⟨by rw [heap_setCell_same _ _ _ _ _ _ hk93]; rfl⟩
            have HRL4 := Aside0.mk (hrl3.fr hf4 (fun j cs t q e => by subst q; rw [hk93] at e; cases e; exact ⟨by decide, by decide⟩))
            refine one_ (i := 12) (N := some 54) #[true, true, true, true, true, true, true, true, true, true, true, true, true, false, false] rfl rfl (by kernel_rfl) (by decide) (fun K hK => ?_)
            refine value_ (w1 := W3) (v := .slice A3 (k + 1) c3) (by rfl) rfl (exec_append _ _ _ rfl _ _ rfl rfl hrun) ?_
            refine hK.out _ _ (⟨by rw [cell_of_row _ _ _ _ _ _ hk93]; rfl, by rw [cell_of_row _ _ _ _ _ _ htb3.k3]; rfl, by rw [cell_of_row _ _ _ _ _ _ htb3.k3]; rfl⟩) (fun hHeld => ?_)
            clear hK K
            refine norm_ (a' := ?_) ?_ ?_
            rotate_left
            · show Act.put _ (some 54) _ = _
              (try simp only [Act.put, List.setIfInBounds_toArray, List.set_cons_zero, List.set_cons_succ, i64_w, i32_w])
              rfl
            refine take_ (i := 13) (N := some 55) (v := ?_) (a' := ?_) #[true, true, true, true, true, true, true, true, true, true, true, true, true, true, false] rfl rfl (by kernel_rfl) (fun _ _ _ h => h) (Or.inl ⟨by rfl, ?_⟩) hHeld ?_ ?_
            rotate_left
            · (intro w hSw; (try dsimp only at hSw); go_simp; (try with_reducible rfl))
            rotate_left
            · (try simp only [Act.put, List.setIfInBounds_toArray, List.set_cons_zero, List.set_cons_succ, i64_w, i32_w])
              rfl
            have l3 : W3.cell? ⟨w3.heap.size, 1, none⟩ = some (.slice A9 k c9) := by rw [cell_of_row _ _ _ _ _ _ hk93]; rfl
            have f3 : W3.frozen? ⟨w3.heap.size, 1, none⟩ = false := blk_frozen hk93 1
            refine last_ (i := 14) (N := none) #[true, true, true, true, true, true, true, true, true, true, true, true, true, true, true] rfl rfl (by kernel_rfl) (by decide) (fun K hK => ?_)
            refine skip_ (w1 := W3.setCell ⟨w3.heap.size, 1, none⟩ (.slice A3 (k + 1) c3)) (by rfl) rfl (by go_simp) ?_
            refine hK.out _ _ ?_
            clear hK K
            refine done_ (by kernel_rfl) ?_
            (try simp only [Exit.then])
            clear hrun hrl3 hf3 hown hk93 htb3 hf4 hHeld hrle hk9e htbe hir6 hc6 hbe hcyd hrld hk9d htbd hbd
            go_wp2
            exact ⟨⟨k + 1, by simp, hlt, HTB4', ⟨A3, c3, HK94.out, HRL4.out⟩⟩, by simp [intOf]; omega⟩
          · obtain rfl : k = ls.length := by omega
            rw [List.take_length] at hrl
            have l0 : wr.cell? ⟨w3.heap.size, 0, none⟩ = some (.int .i64 r) := by rw [cell_of_row _ _ _ _ _ _ hk9]; rfl
            have l1 : wr.cell? ⟨w3.heap.size, 1, none⟩ = some (.slice A9 ls.length c9) := by rw [cell_of_row _ _ _ _ _ _ hk9]; rfl
            have hgr := HGR2.out
            subst hgr
            have d2 : decide ((ls.length : Int) < (ls.length : Int)) = false := by simp
            have HRLr := Aside0.mk hrl
            clear hrl hk9
            go_wp2_with (refine wpList_store_row rfl _ _ _ rfl (w.heap.size + 2) #[.int .i64 r, .slice A9 ls.length c9] rfl rfl _ _ HG.out.k4 (by kernel_rfl) rfl (by kernel_rfl) ?_)
            refine bodyPost_ret (results_ct rfl _ _ (w.heap.size + 2) _ #[.int .i64 r, .slice A9 ls.length c9] (0, 0) _ rfl (setRow_heap _ _ _ _ _ _ HG.out.k4) Tryd.underlying46 rfl (by kernel_rfl)) rfl ?_
            have hfa : Fr (fun j => j = w.heap.size + 2) wr (wr.setRow (w.heap.size + 2) #[.int .i64 r, .slice A9 ls.length c9]) := fr_setRow _ _ _
            refine ⟨A9, c9, ?_, ?_, HG.out.bel.trans (hfa.to_below HG.out.bel.size (fun j hj => by omega))⟩
            · dsimp only
              rw [List.length_map]
              rfl
            · dsimp only
              rw [List.length_map]
              exact HRLr.out.fr hfa (fun j cs t q e => by
                subst q
                rw [HG.out.k4] at e; cases e; exact ⟨by decide, by decide⟩)
    · rw [show okT t = false by simpa using hok] at HCH hgr
      rw [if_neg (by simp)] at hgr
      rw [if_neg (by simp)] at HCH
      subst hgr
      obtain ⟨ts, tu, tf⟩ := t
      dsimp only at *
      clear his ho hok hch
      go_enter Tryd.func30, Tryd.ntmps30
      go_wp2_with fail
      rw [← HW1.out]
      refine HIS.out.mono ?_
      rintro e w2 ⟨rfl, hb2⟩
      have HTB2 := Aside0.mk (HTB.out.below hb2)
      have t0 : w2.cell? ⟨w.heap.size + 1, 0, none⟩ = some (.int .i64 ts) := by rw [cell_of_row _ _ _ _ _ _ HTB2.out.k3]; rfl
      have t1 : w2.cell? ⟨w.heap.size + 1, 1, none⟩ = some (.int .i64 tu) := by rw [cell_of_row _ _ _ _ _ _ HTB2.out.k3]; rfl
      have t2 : w2.cell? ⟨w.heap.size + 1, 2, none⟩ = some (.slice Af tf.length cf) := by rw [cell_of_row _ _ _ _ _ _ HTB2.out.k3]; rfl
      clear hb2 z0 z1
      go_wp2_with fail
      refine (HCH.out w2 (HFD.out.below HTB2.out.bel)).mono ?_
      rintro e w3 ⟨rfl, hb3⟩
      have HTB3 := Aside0.mk (HTB2.out.below hb3)
      clear hb3
      go_wp2_with (refine wpList_store_row rfl _ _ _ rfl (w.heap.size + 2) #[.int .i64 0, .slice none 0 0] rfl rfl _ _ HTB3.out.k4 (by kernel_rfl) rfl (by kernel_rfl) ?_)
      refine bodyPost_ret (results_ct rfl _ _ (w.heap.size + 2) _ #[.int .i64 0, .slice none 0 0] (0, 0) _ rfl (setRow_heap _ _ _ _ _ _ HTB3.out.k4) Tryd.underlying46 rfl (by kernel_rfl)) rfl ?_
      exact ⟨none, 0, rfl, RL.nil w _, HTB3.out.bel.trans ((fr_setRow _ _ _).to_below HTB3.out.bel.size (fun j hj => by subst hj; omega))⟩
  · rw [show okSnd r ls = false by simpa using ho] at his hgr
    rw [if_neg (by simp)] at hgr
    have HIS := Aside0.mk his
    subst hgr
    clear his ho
    go_enter Tryd.func30, Tryd.ntmps30
    go_wp2_with fail
    rw [← HW1.out]
    refine HIS.out.mono ?_
    rintro e w2 ⟨rfl, hb2⟩
    have HTB2 := Aside0.mk (HTB.out.below hb2)
    clear hb2 z0 z1
    go_wp2_with (refine wpList_store_row rfl _ _ _ rfl (w.heap.size + 2) #[.int .i64 0, .slice none 0 0] rfl rfl _ _ HTB2.out.k4 (by kernel_rfl) rfl (by kernel_rfl) ?_)
    refine bodyPost_ret (results_ct rfl _ _ (w.heap.size + 2) _ #[.int .i64 0, .slice none 0 0] (0, 0) _ rfl (setRow_heap _ _ _ _ _ _ HTB2.out.k4) Tryd.underlying46 rfl (by kernel_rfl)) rfl ?_
    exact ⟨none, 0, rfl, RL.nil w _, HTB2.out.bel.trans ((fr_setRow _ _ _).to_below HTB2.out.bel.size (fun j hj => by subst hj; omega))⟩
end Go.Proofs.YthlmnnjbpikijaaDoor.P
end
section
namespace Go.Proofs.YthlmnnjbpikijaaDoor.P
open Go.RowKit Go.Shelf Go.Proofs.YthlmnnjbpikijaaDoor.Bits Go.Proofs.YthlmnnjbpikijaaDoorW.PrintWords Go.Proofs.YthlmnnjbpikijaaDoorW.PrintLast Go.Proofs.YthlmnnjbpikijaaDoorW.PrintMore
set_option linter.unusedVariables false
set_option linter.unusedSimpArgs false
theorem small_l0 (ls : List (List Int)) (n : Int) (hn : 0 ≤ n ∧ n ≤ 1000000) (hl : ls.length ≤ 140737488355328) (he : ∀ j, (lth ls j).length ≤ 140737488355328) : ∀ (d i k : Nat) (acc : Int), d = ls.length - i → i ≤ ls.length → 0 ≤ acc → acc ≤ 140737488355328 → d < k →
    ∃ b, shawmref02_Small.l0 k n acc ls (ls.length : Int) (i : Int) = some b ∧ (b = true → acc ≤ n ∧ ∀ j, i ≤ j → j < ls.length → ((lth ls j).length : Int) ≤ n)
  | 0, i, k + 1, acc, hd, hi, h0, ha, hk => by
    have : i = ls.length := by omega
    subst this
    refine ⟨decide (acc ≤ n), by rw [shawmref02_Small.l0, if_neg (by omega)], fun h => ⟨by simpa using h, fun j h1 h2 => by omega⟩⟩
  | d + 1, i, k + 1, acc, hd, hi, h0, ha, hk => by
    have hlt : i < ls.length := by omega
    have hel := he i
    have hr : rd_L5 ls (i : Int) = lth ls i := by unfold rd_L5; rw [Int.toNat_natCast]
    have hw : wrap64 (acc + ((lth ls i).length : Int)) = acc + ((lth ls i).length : Int) := wrap64_id (by omega) (by omega)
    have hw1 : wrap64 ((i : Int) + 1) = ((i + 1 : Nat) : Int) := by rw [wrap64_id (by omega) (by omega)]; omega
    rw [shawmref02_Small.l0, if_pos (by omega), if_pos (by omega), if_pos (by omega), hr, hw, hw1]
    by_cases hg : acc + ((lth ls i).length : Int) > n
    · rw [if_pos hg]
      exact ⟨false, rfl, fun h => by cases h⟩
    · rw [if_neg hg]
      obtain ⟨b, hb, hc⟩ := small_l0 ls n hn hl he d (i + 1) k (acc + ((lth ls i).length : Int)) (by omega) (by omega) (by omega) (by omega) (by omega)
      refine ⟨b, hb, fun h => ?_⟩
      obtain ⟨h1, h2⟩ := hc h
      refine ⟨by omega, fun j h3 h4 => ?_⟩
      by_cases hj : j = i
      · subst hj; omega
      · exact h2 j (by omega) h4
theorem small_val (r : Int) (ls : List (List Int)) (hl : ls.length ≤ 140737488355328) (he : ∀ x ∈ ls, x.length ≤ 140737488355328) : ∃ b, shawmref02_Small.f (ls.length + 2) r ls 20000 = some b ∧ (b = true → ls.length ≤ 20000 ∧ ∀ x ∈ ls, x.length ≤ 20000) := by
  have he' : ∀ j, (lth ls j).length ≤ 140737488355328 := fun j => by
    unfold lth
    rw [List.getD_eq_getElem?_getD]
    rcases Nat.lt_or_ge j ls.length with h | h
    · rw [List.getElem?_eq_getElem h]; exact he _ (List.getElem_mem h)
    · rw [List.getElem?_eq_none h]; simp
  obtain ⟨b, hb, hc⟩ := small_l0 ls 20000 (by omega) hl he' ls.length 0 (ls.length + 2) (ls.length : Int) (by omega) (by omega) (by omega) (by omega) (by omega)
  refine ⟨b, hb, fun h => ?_⟩
  obtain ⟨h1, h2⟩ := hc h
  refine ⟨by omega, fun x hx => ?_⟩
  obtain ⟨j, hj, rfl⟩ := List.getElem_of_mem hx
  have := h2 j (by omega) hj
  unfold lth at this
  rw [List.getD_eq_getElem?_getD, List.getElem?_eq_getElem hj] at this
  have h3 : ((ls[j].length : Nat) : Int) ≤ 20000 := this
  omega
theorem ints_same (x : List Int) (hx : x.length ≤ 1000000000) : ∀ (d i k : Nat), d = x.length - i → i ≤ x.length → d < k → shawmref02_Ints.l0 k x x (x.length : Int) (i : Int) = some true
  | 0, i, k + 1, hd, hi, hk => by
    rw [shawmref02_Ints.l0, if_neg (by omega)]
  | d + 1, i, k + 1, hd, hi, hk => by
    rw [shawmref02_Ints.l0, if_pos (by omega), if_pos (by omega), if_pos (by omega), if_pos (by omega), if_pos rfl, wrap64_id (by omega) (by omega), show (i : Int) + 1 = ((i + 1 : Nat) : Int) by omega]
    exact ints_same x hx d (i + 1) k (by omega) (by omega) (by omega)
theorem snd_same_l0 (r : Int) (ls : List (List Int)) (hl : ls.length ≤ 1000000000) (he : ∀ j, (lth ls j).length ≤ 1000000) : ∀ (d i k : Nat), d = ls.length - i → i ≤ ls.length → d + 1000001 < k → shawmref02_Same.l0 k (ls.length : Int) (i : Int) r ls r ls = some true
  | 0, i, k + 1, hd, hi, hk => by
    rw [shawmref02_Same.l0, if_neg (by omega)]
  | d + 1, i, k + 1, hd, hi, hk => by
    have hr : rd_L5 ls (i : Int) = lth ls i := by unfold rd_L5; rw [Int.toNat_natCast]
    have hin : shawmref02_Ints.f k (lth ls i) (lth ls i) = some true := by
      unfold shawmref02_Ints.f
      have := he i
      rw [if_pos rfl]
      have := ints_same (lth ls i) (by omega) (lth ls i).length 0 k (by omega) (by omega) (by omega)
      simpa using this
    rw [shawmref02_Same.l0, if_pos (by omega), if_pos (by omega), if_pos (by omega), if_pos (by omega), hr, hin, Option.bind_some, if_pos rfl, wrap64_id (by omega) (by omega), show (i : Int) + 1 = ((i + 1 : Nat) : Int) by omega]
    exact snd_same_l0 r ls hl he d (i + 1) k (by omega) (by omega) (by omega)
theorem lth_le {ls : List (List Int)} {n : Nat} (he : ∀ x ∈ ls, x.length ≤ n) (j : Nat) : (lth ls j).length ≤ n := by
  unfold lth
  rw [List.getD_eq_getElem?_getD]
  rcases Nat.lt_or_ge j ls.length with h | h
  · rw [List.getElem?_eq_getElem h]; exact he _ (List.getElem_mem h)
  · rw [List.getElem?_eq_none h]; simp
theorem snd_same (r : Int) (ls : List (List Int)) (hl : ls.length ≤ 1000000) (he : ∀ x ∈ ls, x.length ≤ 1000000) : shawmref02_Same.f (2000010 + 1) r ls r ls = some true := by
  unfold shawmref02_Same.f
  rw [if_pos rfl, shawmref02_Same.j0, if_neg (by simp)]
  exact snd_same_l0 r ls (by omega) (lth_le he) ls.length 0 2000010 (by omega) (by omega) (by omega)
theorem rate_l0 (r : Int) : ∀ (d i k : Nat), d = 9 - i → i ≤ 9 → d < k → shawmref02_Rate.l0 k r ratesL 9 (i : Int) = some (decide (r ∈ ratesL.drop i))
  | 0, i, k + 1, hd, hi, hk => by
    have : i = 9 := by omega
    subst this
    rw [shawmref02_Rate.l0, if_neg (by omega)]
    simp [ratesL]
  | d + 1, i, k + 1, hd, hi, hk => by
    have h9 : ratesL.length = 9 := rfl
    rw [shawmref02_Rate.l0, if_pos (by omega), if_pos (by omega), if_pos (by omega), rd_nat, wrap64_id (by omega) (by omega), show (i : Int) + 1 = ((i + 1 : Nat) : Int) by omega, drop_at ratesL i (by omega)]
    by_cases h : r = ratesL.getD i 0
    · rw [if_pos h, ← h]
      congr 1
      exact (decide_eq_true List.mem_cons_self).symm
    · rw [if_neg h, rate_l0 r d (i + 1) k (by omega) (by omega) (by omega)]
      have : r ∈ ratesL.getD i 0 :: ratesL.drop (i + 1) ↔ r ∈ ratesL.drop (i + 1) := ⟨fun q => (List.mem_cons.1 q).resolve_left h, fun q => List.mem_cons_of_mem _ q⟩
      congr 1
      exact decide_eq_decide.2 this.symm
theorem rate_val (r : Int) (k : Nat) (hk : 9 < k) : shawmref02_Rate.f k r = some (decide (r ∈ ratesL)) := by
  have := rate_l0 r 9 0 k (by omega) (by omega) hk
  unfold shawmref02_Rate.f
  rw [Option.bind_some]
  rw [List.drop_zero] at this
  exact this
theorem sample_val (v : Int) : shawmref02_sample.f v = some (okSmp v) := by
  unfold shawmref02_sample.f okSmp
  by_cases h : v ≥ -32768
  · rw [if_pos h]
    have : (-32768 ≤ v ∧ v ≤ 32767) ↔ v ≤ 32767 := by omega
    simp only [this]
  · rw [if_neg h]
    have : ¬ (-32768 ≤ v ∧ v ≤ 32767) := by omega
    simp [this]
theorem valid_l1 (ls : List (List Int)) (n i r : Int) (x : List Int) (hx : x.length ≤ 8192) : ∀ (d m k0 : Nat), d = x.length - m → m ≤ x.length → shawmref02_Valid.l1 (d + 1 + k0) ls n i x (x.length : Int) (m : Int) r ls = if (x.drop m).all okSmp = true then shawmref02_Valid.l0 k0 ls n (wrap64 (i + 1)) r ls else some false
  | 0, m, k0, hd, hm => by
    have : m = x.length := by omega
    subst this
    rw [show 0 + 1 + k0 = k0 + 1 by omega, shawmref02_Valid.l1, if_neg (by omega), List.drop_length]
    rfl
  | d + 1, m, k0, hd, hm => by
    have hlt : m < x.length := by omega
    rw [show d + 1 + 1 + k0 = (d + 1 + k0) + 1 by omega, shawmref02_Valid.l1, if_pos (by omega), if_pos (by omega), if_pos (by omega), rd_nat, sample_val, Option.bind_some, wrap64_id (by omega) (by omega), show (m : Int) + 1 = ((m + 1 : Nat) : Int) by omega, drop_at x m hlt, List.all_cons]
    cases hs : okSmp (x.getD m 0) with
    | true =>
      rw [if_pos rfl, valid_l1 ls n i r x hx d (m + 1) k0 (by omega) (by omega), Bool.true_and]
    | false =>
      rw [if_neg (by decide), Bool.false_and, if_neg (by decide)]
set_option maxRecDepth 100000 in
theorem valid_l0 (r : Int) (ls : List (List Int)) (hl : ls.length ≤ 2) : ∀ (d i k : Nat), d = ls.length - i → i ≤ ls.length → d * 9000 < k → ∃ b, shawmref02_Valid.l0 k ls (ls.length : Int) (i : Int) r ls = some b ∧ (b = true ↔ ∀ j, i ≤ j → j < ls.length → okCh ls j = true) := by
  intro d
  induction d with
  | zero =>
    intro i k hd hi hk
    obtain ⟨k, rfl⟩ : ∃ k', k = k' + 1 := ⟨k - 1, by omega⟩
    rw [shawmref02_Valid.l0, if_neg (by omega)]
    exact ⟨true, rfl, fun _ j h1 h2 => by omega, fun _ => rfl⟩
  | succ d ih =>
    intro i k hd hi hk
    obtain ⟨k, rfl⟩ : ∃ k', k = k' + 1 := ⟨k - 1, by omega⟩
    have hlt : i < ls.length := by omega
    have hr : rd_L5 ls (i : Int) = lth ls i := by unfold rd_L5; rw [Int.toNat_natCast]
    have hr0 : rd_L5 ls 0 = lth ls 0 := rfl
    rw [shawmref02_Valid.l0, if_pos (by omega), if_pos (by omega), if_pos (by omega), if_pos (by omega), hr, hr0]
    obtain ⟨k1, rfl⟩ : ∃ k1, k = k1 + 1 := ⟨k - 1, by omega⟩
    have hbad : okCh ls i = false → ∃ b, some false = some b ∧ (b = true ↔ ∀ j, i ≤ j → j < ls.length → okCh ls j = true) := fun h => ⟨false, rfl, (fun h' => by cases h'), (fun h' => by rw [h' i (Nat.le_refl _) hlt] at h; cases h)⟩
    by_cases hne : ((lth ls i).length : Int) = ((lth ls 0).length : Int)
    · rw [if_pos hne]
      rw [shawmref02_Valid.j2]
      by_cases hbig : ((lth ls i).length : Int) > 8192
      · rw [decide_eq_true hbig, if_pos rfl]
        exact hbad (by unfold okCh; rw [decide_eq_false (by omega)]; rfl)
      · rw [decide_eq_false hbig, if_neg (by decide)]
        obtain ⟨k0, rfl⟩ : ∃ k0, k1 = (lth ls i).length + 1 + k0 := ⟨k1 - ((lth ls i).length + 1), by omega⟩
        rw [show (0 : Int) = ((0 : Nat) : Int) from rfl, valid_l1 ls _ _ r (lth ls i) (by omega) (lth ls i).length 0 k0 (by omega) (by omega), List.drop_zero]
        have hch : okCh ls i = (lth ls i).all okSmp := by unfold okCh; rw [decide_eq_true (by omega), Bool.true_and]
        cases ha : (lth ls i).all okSmp with
        | true =>
          rw [if_pos rfl, wrap64_id (by omega) (by omega), show (i : Int) + 1 = ((i + 1 : Nat) : Int) by omega]
          obtain ⟨b, hb, hc⟩ := ih (i + 1) k0 (by omega) (by omega) (by omega)
          refine ⟨b, hb, fun h j h1 h2 => ?_, fun h => hc.2 (fun j h1 h2 => h j (by omega) h2)⟩
          by_cases hj : j = i
          · subst hj; rw [hch, ha]
          · exact hc.1 h j (by omega) h2
        | false =>
          rw [if_neg (by decide)]
          exact hbad (by rw [hch, ha])
    · rw [if_neg hne, shawmref02_Valid.j2, if_pos rfl]
      exact hbad (by unfold okCh; rw [decide_eq_false (by omega)]; rfl)
theorem valid_val (r : Int) (ls : List (List Int)) (hl : ls.length ≤ 1000000000) : shawmref02_Valid.f 20000 r ls = some (okSnd r ls) := by
  have hno : ¬ okSnd r ls = true → okSnd r ls = false := fun h => by simpa using h
  have hf : ∀ q, shawmref02_Valid.j0 20000 true r q = some false := fun q => by rw [show 20000 = 19999 + 1 from rfl, shawmref02_Valid.j0, if_pos rfl]
  unfold shawmref02_Valid.f
  rw [rate_val r 20000 (by omega), Option.bind_some]
  by_cases hr : r ∈ ratesL
  · rw [decide_eq_true hr, if_pos rfl]
    by_cases h1 : (ls.length : Int) < 1
    · rw [if_pos h1, hf, hno (fun h => by have := ((okSnd_iff r ls).1 h).2.1; omega)]
    · rw [if_neg h1]
      by_cases h2 : (ls.length : Int) > 2
      · rw [decide_eq_true h2, hf, hno (fun h => by have := ((okSnd_iff r ls).1 h).2.1; omega)]
      · rw [decide_eq_false h2, show 20000 = 19999 + 1 from rfl, shawmref02_Valid.j0, if_neg (by decide)]
        obtain ⟨b, hb, hc⟩ := valid_l0 r ls (by omega) ls.length 0 19999 (by omega) (by omega) (by omega)
        rw [show (0 : Int) = ((0 : Nat) : Int) from rfl, hb]
        congr 1
        have : b = true ↔ okSnd r ls = true := by
          rw [hc, okSnd_iff]
          exact ⟨fun h => ⟨hr, by omega, fun j hj => h j (by omega) hj⟩, fun h j _ hj => h.2.2 j hj⟩
        cases b <;> cases ho : okSnd r ls <;> simp_all
  · rw [decide_eq_false hr, if_neg (by decide), hf, hno (fun h => hr ((okSnd_iff r ls).1 h).1)]
/-! What Grown gives. -/
theorem lth_map {f : List Int → List Int} {ls : List (List Int)} {j : Nat} (h : j < ls.length) : lth (ls.map f) j = f (lth ls j) := by
  unfold lth
  simp [List.getD_eq_getElem?_getD, h]
theorem cut_padded (sk wh : Nat) (x : List Int) (n0 : Nat) (hn : x.length = n0) (hw : sk + n0 ≤ wh) : cutR sk (wh - (wh - (sk + n0))) (padded sk wh x) = x := by
  subst hn
  unfold cutR padded zeros
  rw [show wh - (wh - (sk + x.length)) = sk + x.length by omega, ← List.append_assoc, List.take_append_of_le_length (by simp)]
  simp [List.take_of_length_le, List.drop_append_of_le_length]
theorem whole_ge (n : Nat) : n ≤ wholeN n ∧ wholeN n < n + 128 ∧ wholeN n % 128 = 0 := by unfold wholeN; omega
theorem grown_fit (r : Int) (ls : List (List Int)) (skip : Int) (ho : okSnd r ls = true) (hs : okN skip = true) (hb : ¬ 8192 < wholeN (skip.toNat + (lth ls 0).length)) :
    okSnd r (ls.map (padded skip.toNat (wholeN (skip.toNat + (lth ls 0).length)))) = true ∧ (lth (ls.map (padded skip.toNat (wholeN (skip.toNat + (lth ls 0).length)))) 0).length = wholeN (skip.toNat + (lth ls 0).length) ∧
    fTrim r (ls.map (padded skip.toNat (wholeN (skip.toNat + (lth ls 0).length)))) ⟨skip, ((wholeN (skip.toNat + (lth ls 0).length) - (skip.toNat + (lth ls 0).length) : Nat) : Int), []⟩ = (r, ls, 0) := by
  obtain ⟨hr, ⟨h1, h2⟩, hch⟩ := (okSnd_iff r ls).1 ho
  unfold okN at hs
  simp only [decide_eq_true_eq] at hs
  obtain ⟨n0, hn0⟩ : ∃ n, (lth ls 0).length = n := ⟨_, rfl⟩
  rw [hn0] at hb ⊢
  obtain ⟨g1, g2, g3⟩ := whole_ge (skip.toNat + n0)
  obtain ⟨wh, hwh⟩ : ∃ wh, wholeN (skip.toNat + n0) = wh := ⟨_, rfl⟩
  rw [hwh] at hb g1 g2 g3 ⊢
  have hlen : ∀ j, j < ls.length → (lth ls j).length = n0 := fun j hj => by
    have := hch j hj
    unfold okCh at this
    simp only [Bool.and_eq_true, decide_eq_true_eq] at this
    omega
  have hpl : ∀ j, j < ls.length → (padded skip.toNat wh (lth ls j)).length = wh := fun j hj => padded_length _ _ _ (by rw [hlen j hj]; omega)
  have hok : okSnd r (ls.map (padded skip.toNat wh)) = true := by
    refine (okSnd_iff _ _).2 ⟨hr, by rw [List.length_map]; exact ⟨h1, h2⟩, fun j hj => ?_⟩
    rw [List.length_map] at hj
    unfold okCh
    rw [lth_map hj, lth_map (show 0 < ls.length by omega), hpl j hj, hpl 0 (by omega)]
    simp only [Bool.and_eq_true, decide_eq_true_eq]
    refine ⟨⟨trivial, by omega⟩, ?_⟩
    have hj' := hch j hj
    unfold okCh at hj'
    simp only [Bool.and_eq_true] at hj'
    have hz : ∀ n, (zeros n).all okSmp = true := fun n => by
      rw [List.all_eq_true]
      intro v hv
      unfold zeros at hv
      rw [List.eq_of_mem_replicate hv]
      decide
    unfold padded
    rw [List.all_append, List.all_append, hz, hz, hj'.2]
    rfl
  have hlen0 : (lth (ls.map (padded skip.toNat wh)) 0).length = wh := by rw [lth_map (by omega), hpl 0 (by omega)]
  refine ⟨hok, hlen0, ?_⟩
  have hokT : okT ⟨skip, ((wh - (skip.toNat + n0) : Nat) : Int), []⟩ = true := by
    unfold okT okN
    dsimp only
    rw [decide_eq_true (show 0 ≤ skip ∧ skip ≤ 8192 by omega), decide_eq_true (show (0 : Int) ≤ ((wh - (skip.toNat + n0) : Nat) : Int) ∧ ((wh - (skip.toNat + n0) : Nat) : Int) ≤ 8192 by omega)]
    rfl
  unfold fTrim
  rw [if_pos ⟨hok, hokT⟩, hlen0, if_neg (by dsimp only; omega)]
  dsimp only
  rw [Int.toNat_natCast]
  have : (ls.map (padded skip.toNat wh)).map (cutR skip.toNat (wh - (wh - (skip.toNat + n0)))) = ls := by
    rw [List.map_map]
    apply List.ext_getElem
    · simp
    · intro j hj1 hj2
      rw [List.getElem_map]
      have e : lth ls j = ls[j] := by unfold lth; rw [List.getD_eq_getElem?_getD, List.getElem?_eq_getElem hj2]; rfl
      show cutR _ _ (padded _ _ ls[j]) = ls[j]
      exact cut_padded skip.toNat wh ls[j] n0 (by rw [← e]; exact hlen j hj2) g1
  rw [this]
end Go.Proofs.YthlmnnjbpikijaaDoor.P
end
