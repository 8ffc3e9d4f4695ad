/- The memory of FrameAll's first loop: its rows, the parts that it is given. -/
import Derived.Test.YtnaklnehichhpaaDoorSa
namespace Go.Proofs.YtnaklnehichhpaaDoor.P
open Go.RowKit Go.Shelf Go.Proofs.YtnaklnehichhpaaDoor.Bits Go.Proofs.YtnaklnehichhpaaDoorW.PrintWords Go.Proofs.YtnaklnehichhpaaDoorW.PrintLast Go.Proofs.YtnaklnehichhpaaDoorW.PrintMore
set_option linter.unusedVariables false
set_option linter.unusedSimpArgs false

abbrev RI (S : Nat → Prop) (w : World) (v : Value) (B : List Int) : Prop := Kd.R (Kd.int .i64) 3 w 0 S v B
theorem append_run64 {S : Nat → Prop} (W : World) (v : Value) (xs ys : List Int) (A : Option Addr) (m c : Nat) (HO : RI S W v xs) (HR : Kd.C (Kd.int .i64) W A m ys) (hl : xs.length + m ≤ 1000000000) :
    ∃ v1 w1, (Builtin.append_ #[38, 38] 38 #[v, .slice A m c]).run Tryd.prog W = .ok v1 w1 ∧ RI (fun k => S k ∨ k = W.heap.size) w1 v1 (xs ++ ys) ∧ W.grownBy w1 v.ownBlock := by
  obtain ⟨i0, hi, hzz⟩ := Option.map_eq_some_iff.1 iinfo
  simp only [Prod.mk.injEq] at hzz
  obtain ⟨hz0, hz1, hz2⟩ := hzz
  have HO' := Kd.own_of_R HO
  have HR' := Kd.reads_of_C (enc := Value.int .i64) (d := (0 : Int)) (h1 := fun _ => rfl) HR
  have hm : ys.length = m := HR'.1
  have ht := Tryd.underlying38
  rcases A with _ | ad
  · have h0 : m = 0 := by
      rcases Nat.eq_zero_or_pos m with h0 | h0
      · exact h0
      · obtain ⟨ad, h, _⟩ := HR'.2.2 h0
        cases h
    subst h0
    obtain rfl : ys = [] := List.eq_nil_of_length_eq_zero hm
    refine ⟨v, W, ?_, by rw [List.append_nil]; exact Kd.R_mono HO (fun k hk => .inl hk), World.grownBy.refl W _⟩
    rcases HO'.2 with ⟨rfl, hn⟩ | ⟨g, cap, cur, rfl, _, _, hnc, _⟩
    · simp [Builtin.append_, run_underlying ht, sizeOf, typeInfo, hi, Builtin.lenOf, Builtin.firstCells]
    · simp [Builtin.append_, run_underlying ht, sizeOf, typeInfo, hi, Builtin.lenOf, Builtin.firstCells, hnc, storeCells]
  · have hcells : ∀ j u, (encs (Value.int .i64) ys)[j]? = some u → W.cell? (ad.add j) = some u := by
      intro j u hu
      have hj : j < ys.length := by
        rcases Nat.lt_or_ge j ys.length with h | h
        · exact h
        · simp [encs, List.getElem?_eq_none h] at hu
      obtain ⟨ad', h', hc⟩ := HR'.2.2 (by omega)
      obtain rfl := Option.some.inj h'
      rw [encs_get (d := (0 : Int)) ys j hj] at hu
      rw [← hu]
      exact hc j (by omega)
    obtain ⟨v1, w1, hr, h2, h3, _, h5⟩ := run_append_own_at (P := Tryd.prog) W 0 38 38 3 i0 _ 1 8 ht hi hz0 hz1 hz2 rfl (by omega) v xs.length (encs (Value.int .i64) xs) HO' ad m c (encs (Value.int .i64) ys) (by simp [encs, hm]) hcells
      (by intro u hu; simp only [encs, List.mem_map] at hu; obtain ⟨q, _, rfl⟩ := hu; rfl) (by simp only [maxLen]; omega) (by omega) (Nat.zero_le _)
    refine ⟨v1, w1, hr, Kd.R_of_own (by simpa [encs, hm] using h2) (fun k hk => ?_), h3⟩
    rcases h5 with e | e
    · exact .inl (HO.1 k (by rw [← e]; exact hk))
    · rw [e] at hk; cases hk; exact .inr rfl

/-- Rows of the call's own, each in blocks of its own colour: the whole (3), the frames (4), the places (5), the last frame (6). -/
structure FA (w0 W : World) (v3 v4 v5 vb : Value) (s : SA) (b : List Int) : Prop where
  ex : ∃ C : Nat → Nat, RB (fun k => C k = 3) W v3 s.1 ∧ RB (fun k => C k = 4) W v4 s.2.1 ∧ RI (fun k => C k = 5) W v5 s.2.2 ∧ RB (fun k => C k = 6) W vb b ∧ ∀ k, C k ≠ 0 → w0.heap.size ≤ k ∧ k < W.heap.size
  low : Below w0.heap.size w0 W
theorem FA.nil (w : World) : FA w w (.slice none 0 0) (.slice none 0 0) (.slice none 0 0) (.slice none 0 0) ([], [], []) [] :=
  ⟨⟨fun _ => 0, Kd.R_nil _ _ _ _ _, Kd.R_nil _ _ _ _ _, Kd.R_nil _ _ _ _ _, Kd.R_nil _ _ _ _ _, fun k h => absurd rfl h⟩, Below.refl _ _⟩
section
variable {w0 W W' : World} {v3 v4 v5 vb : Value} {s : SA} {b : List Int}
theorem FA.below (h : FA w0 W v3 v4 v5 vb s b) (hb : Below W.heap.size W W') : FA w0 W' v3 v4 v5 vb s b := by
  obtain ⟨C, h3, h4, h5, h6, hC⟩ := h.ex
  have hf := Fr.below hb (fun _ => False)
  exact ⟨⟨C, R_fr h3 hf (fun _ _ _ h => h), R_fr h4 hf (fun _ _ _ h => h), R_fr h5 hf (fun _ _ _ h => h), R_fr h6 hf (fun _ _ _ h => h), fun k hk => ⟨(hC k hk).1, Nat.lt_of_lt_of_le (hC k hk).2 hb.size⟩⟩, h.low.trans (hb.mono h.low.size)⟩
/-- A row grows: the colours go on. -/
theorem col_grown {C : Nat → Nat} {i : Nat} {v : Value} (hC : ∀ k, C k ≠ 0 → w0.heap.size ≤ k ∧ k < W.heap.size) (hi : i ≠ 0) (hv : ∀ k, v.ownBlock = some k → C k = i) (hg : W.grownBy W' v.ownBlock) (hlow : Below w0.heap.size w0 W) :
    ∃ C' : Nat → Nat, (∀ k, (C k = i ∨ k = W.heap.size) → k < W'.heap.size → C' k = i) ∧ (∀ k j, j ≠ 0 → C k = j → C' k = j) ∧ (∀ k, C' k ≠ 0 → w0.heap.size ≤ k ∧ k < W'.heap.size) ∧ Fr (fun k => C k = i) W W' ∧ Below w0.heap.size w0 W' := by
  have h0 : C W.heap.size = 0 := by
    by_cases h : C W.heap.size = 0
    · exact h
    · have := (hC _ h).2; omega
  have hW := hlow.size
  refine ⟨fun k => if k = W.heap.size then (if W.heap.size < W'.heap.size then i else 0) else C k, fun k hk hl => ?_, fun k j hj hk => ?_, fun k hk => ?_, (Fr.refl _ _).grown hg (fun k _ e => hv k e), hlow.grown hg hW (fun k e => (hC k (by rw [hv k e]; exact hi)).1)⟩
  · dsimp only
    split
    · rename_i e; rw [if_pos (by omega)]
    · rcases hk with hk | hk
      · exact hk
      · contradiction
  · dsimp only
    split
    · rename_i e; rw [e, h0] at hk; exact absurd hk.symm hj
    · exact hk
  · dsimp only at hk
    split at hk
    · rename_i e
      split at hk
      · omega
      · exact absurd rfl hk
    · have := hC k hk
      exact ⟨this.1, Nat.lt_of_lt_of_le this.2 hg.size⟩
theorem col_keep8 {C C' : Nat → Nat} {i j : Nat} {v : Value} {B : List Int} (h : RB (fun k => C k = j) W v B) (hf : Fr (fun k => C k = i) W W') (hij : j ≠ i) (hj : j ≠ 0) (ho : ∀ k j, j ≠ 0 → C k = j → C' k = j) : RB (fun k => C' k = j) W' v B :=
  Kd.R_mono (R_fr h hf (fun k hk _ e => hij (hk.symm.trans e))) (fun k hk => ho k j hj hk)
theorem col_keepI {C C' : Nat → Nat} {i j : Nat} {v : Value} {B : List Int} (h : RI (fun k => C k = j) W v B) (hf : Fr (fun k => C k = i) W W') (hij : j ≠ i) (hj : j ≠ 0) (ho : ∀ k j, j ≠ 0 → C k = j → C' k = j) : RI (fun k => C' k = j) W' v B :=
  Kd.R_mono (R_fr h hf (fun k hk _ e => hij (hk.symm.trans e))) (fun k hk => ho k j hj hk)
theorem own_kept {e : TypeId} {base sz n : Nat} {v : Value} {fl : List Value} (h : RowV W base e sz v n fl) (hg : W.grownBy W' v.ownBlock) : ∀ (k : Nat) (cs : Array Value) (t : TypeId) (fr : Nat × Nat), t ≠ e → W.heap[k]? = some (.cells cs t fr) → W'.heap[k]? = some (.cells cs t fr) := by
  intro k cs t fr ht hk
  rw [hg.block k (lt_of_block hk) (fun e' => ?_)]
  · exact hk
  · obtain ⟨⟨cs', hc⟩, _⟩ := h.block k e'.symm
    rw [hk] at hc
    cases hc
    exact ht rfl
/-- Blocks of other kinds stay. -/
def KeepO (w w' : World) : Prop := ∀ (k : Nat) (cs : Array Value) (t : TypeId) (fr : Nat × Nat), t ≠ 5 → t ≠ 3 → w.heap[k]? = some (.cells cs t fr) → w'.heap[k]? = some (.cells cs t fr)
theorem FA.app3 (h : FA w0 W v3 v4 v5 vb s b) (A : Option Addr) (m c : Nat) (ys : List Int) (HR : Kd.C (Kd.int .u8) W A m ys) (hl : s.1.length + m ≤ 1000000000) :
    ∃ v1 w1, (Builtin.append_ #[24, 24] 24 #[v3, .slice A m c]).run Tryd.prog W = .ok v1 w1 ∧ KeepO W w1 ∧ FA w0 w1 v1 v4 v5 vb (s.1 ++ ys, s.2.1, s.2.2) b := by
  obtain ⟨C, h3, h4, h5, h6, hC⟩ := h.ex
  obtain ⟨v1, w1, hrun, hr, hg⟩ := append_run W v3 s.1 ys A m c h3 HR (by omega)
  obtain ⟨C', c1, c2, c3, hf, hlow⟩ := col_grown hC (i := 3) (by decide) (fun k hk => h3.1 k hk) hg h.low
  exact ⟨v1, w1, hrun, fun k cs t fr h1 h2 => own_kept (Kd.own_of_R h3) hg k cs t fr h1, ⟨C', Kd.R_mono (Kd.R_bound hr) (fun k hk => c1 k hk.1 hk.2.2.1), col_keep8 h4 hf (by decide) (by decide) c2, col_keepI h5 hf (by decide) (by decide) c2, col_keep8 h6 hf (by decide) (by decide) c2, c3⟩, hlow⟩
theorem FA.app4 (h : FA w0 W v3 v4 v5 vb s b) (A : Option Addr) (m c : Nat) (ys : List Int) (HR : Kd.C (Kd.int .u8) W A m ys) (hl : s.2.1.length + m ≤ 1000000000) :
    ∃ v1 w1, (Builtin.append_ #[24, 24] 24 #[v4, .slice A m c]).run Tryd.prog W = .ok v1 w1 ∧ KeepO W w1 ∧ FA w0 w1 v3 v1 v5 vb (s.1, s.2.1 ++ ys, s.2.2) b := by
  obtain ⟨C, h3, h4, h5, h6, hC⟩ := h.ex
  obtain ⟨v1, w1, hrun, hr, hg⟩ := append_run W v4 s.2.1 ys A m c h4 HR (by omega)
  obtain ⟨C', c1, c2, c3, hf, hlow⟩ := col_grown hC (i := 4) (by decide) (fun k hk => h4.1 k hk) hg h.low
  exact ⟨v1, w1, hrun, fun k cs t fr h1 h2 => own_kept (Kd.own_of_R h4) hg k cs t fr h1, ⟨C', col_keep8 h3 hf (by decide) (by decide) c2, Kd.R_mono (Kd.R_bound hr) (fun k hk => c1 k hk.1 hk.2.2.1), col_keepI h5 hf (by decide) (by decide) c2, col_keep8 h6 hf (by decide) (by decide) c2, c3⟩, hlow⟩
theorem FA.app5 (h : FA w0 W v3 v4 v5 vb s b) (A : Option Addr) (m c : Nat) (ys : List Int) (HR : Kd.C (Kd.int .i64) W A m ys) (hl : s.2.2.length + m ≤ 1000000000) :
    ∃ v1 w1, (Builtin.append_ #[38, 38] 38 #[v5, .slice A m c]).run Tryd.prog W = .ok v1 w1 ∧ KeepO W w1 ∧ FA w0 w1 v3 v4 v1 vb (s.1, s.2.1, s.2.2 ++ ys) b := by
  obtain ⟨C, h3, h4, h5, h6, hC⟩ := h.ex
  obtain ⟨v1, w1, hrun, hr, hg⟩ := append_run64 W v5 s.2.2 ys A m c h5 HR (by omega)
  obtain ⟨C', c1, c2, c3, hf, hlow⟩ := col_grown hC (i := 5) (by decide) (fun k hk => h5.1 k hk) hg h.low
  exact ⟨v1, w1, hrun, fun k cs t fr h1 h2 => own_kept (Kd.own_of_R h5) hg k cs t fr h2, ⟨C', col_keep8 h3 hf (by decide) (by decide) c2, col_keep8 h4 hf (by decide) (by decide) c2, Kd.R_mono (Kd.R_bound hr) (fun k hk => c1 k hk.1 hk.2.2.1), col_keep8 h6 hf (by decide) (by decide) c2, c3⟩, hlow⟩
/-- A new frame in memory of its own. -/
theorem FA.setb (h : FA w0 W v3 v4 v5 vb s b) {S' : Nat → Prop} {v : Value} {b' : List Int} (hb : Below W.heap.size W W') (hr : RB S' W' v b') (hS : ∀ k, S' k → W.heap.size ≤ k) : FA w0 W' v3 v4 v5 v s b' := by
  obtain ⟨C, h3, h4, h5, h6, hC⟩ := (h.below hb).ex
  obtain ⟨C0, _, _, _, _, hC0⟩ := h.ex
  have hlow := h.low
  have hrb := Kd.R_bound hr
  obtain ⟨C, h3, h4, h5, h6, hC⟩ := h.ex
  have hf := Fr.below hb (fun _ => False)
  have hk : ∀ j k, j ≠ 0 → j ≠ 6 → C k = j → (if W.heap.size ≤ k then (if k < W'.heap.size then 6 else 0) else if C k = 6 then 0 else C k) = j := by
    intro j k hj hj6 e
    have := hC k (by rw [e]; exact hj)
    rw [if_neg (by omega), if_neg (by rw [e]; exact hj6), e]
  refine ⟨⟨fun k => if W.heap.size ≤ k then (if k < W'.heap.size then 6 else 0) else if C k = 6 then 0 else C k, Kd.R_mono (R_fr h3 hf (fun _ _ _ h => h)) (fun k e => hk 3 k (by decide) (by decide) e), Kd.R_mono (R_fr h4 hf (fun _ _ _ h => h)) (fun k e => hk 4 k (by decide) (by decide) e), Kd.R_mono (R_fr h5 hf (fun _ _ _ h => h)) (fun k e => hk 5 k (by decide) (by decide) e), Kd.R_mono hrb (fun k e => ?_), fun k hk => ?_⟩, hlow.trans (hb.mono hlow.size)⟩
  · dsimp only
    rw [if_pos (hS k e.1), if_pos e.2.2.1]
  · dsimp only at hk
    have := hlow.size
    have := hb.size
    split at hk
    · split at hk
      · omega
      · exact absurd rfl hk
    · split at hk
      · exact absurd rfl hk
      · have := hC k hk; omega
theorem FA.reads3 (h : FA w0 W v3 v4 v5 vb s b) : ∃ A c, v3 = .slice A s.1.length c ∧ s.1.length ≤ c ∧ Kd.C (Kd.int .u8) W A s.1.length s.1 := by
  obtain ⟨C, h3, _⟩ := h.ex
  exact Kd.R_reads h3
theorem FA.reads4 (h : FA w0 W v3 v4 v5 vb s b) : ∃ A c, v4 = .slice A s.2.1.length c ∧ s.2.1.length ≤ c ∧ Kd.C (Kd.int .u8) W A s.2.1.length s.2.1 := by
  obtain ⟨C, _, h4, _⟩ := h.ex
  exact Kd.R_reads h4
theorem FA.reads5 (h : FA w0 W v3 v4 v5 vb s b) : ∃ A c, v5 = .slice A s.2.2.length c ∧ s.2.2.length ≤ c ∧ Kd.C (Kd.int .i64) W A s.2.2.length s.2.2 := by
  obtain ⟨C, _, _, h5, _⟩ := h.ex
  exact Kd.R_reads h5
theorem FA.readsb (h : FA w0 W v3 v4 v5 vb s b) : ∃ A c, vb = .slice A b.length c ∧ b.length ≤ c ∧ Kd.C (Kd.int .u8) W A b.length b := by
  obtain ⟨C, _, _, _, h6, _⟩ := h.ex
  exact Kd.R_reads h6
end

/-- A part that was given, as it lies in memory. -/
structure PM where
  A0 : Option Addr
  c0 : Nat
  A1 : Option Addr
  c1 : Nat
  d : PD
structure PM.ok (x : PM) (w : World) : Prop where
  C0 : Kd.C (Kd.int .u8) w x.A0 x.d.before.length x.d.before
  b0 : is8 x.d.before
  l0 : x.d.before.length ≤ x.c0 ∧ x.d.before.length ≤ 9000000000000000000
  C1 : Kd.C (Kd.int .u8) w x.A1 x.d.body.length x.d.body
  b1 : is8 x.d.body
  l1 : x.d.body.length ≤ x.c1 ∧ x.d.body.length ≤ 9000000000000000000
theorem PM.ok.below {x : PM} {w w' : World} (h : x.ok w) (hb : Below w.heap.size w w') : x.ok w' := ⟨Kd.C_below h.C0 hb, h.b0, h.l0, Kd.C_below h.C1 hb, h.b1, h.l1⟩
structure PM.at (x : PM) (w : World) (a : Addr) : Prop where
  h0 : w.cell? a = some (.slice x.A0 x.d.before.length x.c0)
  h1 : w.cell? ⟨a.block, a.off + 1, none⟩ = some (.int .i64 x.d.h.num)
  h2 : w.cell? ⟨a.block, a.off + 2, none⟩ = some (.bool x.d.h.lossy)
  h3 : w.cell? ⟨a.block, a.off + 3, none⟩ = some (.int .i64 x.d.h.rate)
  h4 : w.cell? ⟨a.block, a.off + 4, none⟩ = some (.int .i64 x.d.h.ch)
  h5 : w.cell? ⟨a.block, a.off + 5, none⟩ = some (.int .i64 x.d.h.kind)
  h6 : w.cell? ⟨a.block, a.off + 6, none⟩ = some (.int .i64 x.d.h.count)
  h7 : w.cell? ⟨a.block, a.off + 7, none⟩ = some (.int .i64 x.d.h.back)
  h8 : w.cell? ⟨a.block, a.off + 8, none⟩ = some (.slice x.A1 x.d.body.length x.c1)
theorem PM.at.below {x : PM} {w w' : World} {a : Addr} (h : x.at w a) (hb : Below w.heap.size w w') : x.at w' a :=
  ⟨pw_cell_below hb h.h0, pw_cell_below hb h.h1, pw_cell_below hb h.h2, pw_cell_below hb h.h3, pw_cell_below hb h.h4, pw_cell_below hb h.h5, pw_cell_below hb h.h6, pw_cell_below hb h.h7, pw_cell_below hb h.h8⟩
structure PartsAt (w : World) (X : Option Addr) (l : List PM) : Prop where
  cells : ∀ i (h : i < l.length), ∃ x, X = some x ∧ l[i].at w (x.add (i * 9))
  ok : ∀ x ∈ l, x.ok w
theorem PartsAt.below {w w' : World} {X : Option Addr} {l : List PM} (h : PartsAt w X l) (hb : Below w.heap.size w w') : PartsAt w' X l :=
  ⟨fun i hi => by
    obtain ⟨x, e, ha⟩ := h.cells i hi
    exact ⟨x, e, ha.below hb⟩, fun o ho => (h.ok o ho).below hb⟩
theorem parts_inv (l : List PM) (h : ∀ x ∈ l, is8 x.d.before ∧ is8 x.d.body) (j : Nat) : InvA (partsA ((l.map PM.d).take j)) := by
  refine partsA_inv (fun x hx => ?_)
  obtain ⟨y, hy, rfl⟩ := List.mem_map.1 (List.mem_of_mem_take hx)
  exact h y hy
theorem parts_take (l : List PM) (j : Nat) (hj : j < l.length) : partsA ((l.map PM.d).take (j + 1)) = stepA (partsA ((l.map PM.d).take j)) l[j].d := by
  rw [List.take_succ_eq_append_getElem (by simpa using hj), partsA_snoc, List.getElem_map]
end Go.Proofs.YtnaklnehichhpaaDoor.P
