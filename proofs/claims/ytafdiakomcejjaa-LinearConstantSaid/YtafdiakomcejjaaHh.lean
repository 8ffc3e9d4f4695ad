/- Contracts of linear.products and linear.total: an iterator and the sum of what it yields. -/
import Derived.Test.YtafdiakomcejjaaBase
import Derived.Test.YtafdiakomcejjaaHf
import Derived.RangeFuncNested
import Derived.RangeFuncBound
import Derived.RangeFuncCalls
import Derived.RangeFuncLeaves
import Derived.Shelf.Abstract
import Derived.Shelf.RegionOpen
import Derived.LoopNIn
import Derived.LoopIn
namespace Go.Proofs.Ytafdiakomcejjaa.P
open Go.RowKit Go.Shelf Go.Proofs.YtafdiakomcejjaaW.PrintWords Go.Proofs.YtafdiakomcejjaaW.PrintLast Go.Proofs.YtafdiakomcejjaaW.PrintMore
set_option linter.unusedVariables false
set_option linter.unusedSimpArgs false
attribute [local go_sem] Oper.semAt_some

/-- The products of elements at a distance. -/
def prods (x : List Int) (far : Nat) : List Int := (List.range (x.length - far)).map fun (j : Nat) => rd x ((far + j : Nat) : Int) * rd x (j : Int)
theorem prods_length (x : List Int) (far : Nat) : (prods x far).length = x.length - far := by simp [prods]
theorem prods_take (x : List Int) (far k : Nat) (h : k < x.length - far) : (prods x far).take (k + 1) = (prods x far).take k ++ [rd x ((far + k : Nat) : Int) * rd x (k : Int)] := by
  rw [List.take_add_one]
  simp [prods, h]

theorem grown_drew (W : World) : W.grownBy W.drew none := ⟨rfl, rfl, rfl, Nat.le_refl _, fun _ _ _ => rfl⟩

set_option maxHeartbeats 1000000 in
set_option maxRecDepth 100000 in
theorem products_stops (n bf bx far : Nat) (A : Option Addr) (c : Nat) (x : List Int) (w : World) (hbf : w.cell? ⟨bf, 0, none⟩ = some (.int .i64 far)) (hbx : w.cell? ⟨bx, 0, none⟩ = some (.slice A x.length c))
    (hC : Kd.C (Kd.int .i64) w A x.length x) (hw : within 2097152 x) (hl : x.length ≤ 9000) (hf : far ≤ 100) :
    SeqStopsK Fence.wide n Try.prog 52 #[.pointer (some ⟨bf, 0, none⟩), .pointer (some ⟨bx, 0, none⟩)] (fun v : Int => #[Value.int .i64 v]) (Below w.heap.size) (fun xs => xs = prods x far) (fun _ => True) (x.length - far) w := by
  intro l J Jx W hW hJ hJx hY h0
  have HC := Aside0.mk hC
  have HW := Aside0.mk hw
  clear hC hw
  have lbf := World.block_lt_of_cell? w _ hbf
  have lbx := World.block_lt_of_cell? w _ hbx
  have hbfW : W.cell? ⟨bf, 0, none⟩ = some (.int .i64 far) := (hW.cell (p := ⟨bf, 0, none⟩) lbf).trans hbf
  refine callsIn_of_wp Try.func52 rfl trivial ?_ rfl
  simp only [Try.ntmps52, List.size_toArray, List.length_cons, List.length_nil, Nat.reduceAdd, Nat.reduceSub, Array.replicate_succ, Array.replicate_zero, List.push_toArray, List.append_toArray, List.nil_append, List.cons_append]
  gi_wp2
  gi_loopw [4] (fun u wr => ∃ k : Nat, u = .int .i64 ((far : Int) + k) ∧ k ≤ x.length - far ∧ Aside0 (J ((prods x far).take k) wr) ∧ Aside0 (Below w.heap.size w wr)) (fun u _ => x.length - (intOf u).toNat)
  case atStart => exact ⟨0, by simp, Nat.zero_le _, ⟨by simpa using h0⟩, ⟨hW⟩⟩
  case round =>
    obtain ⟨k, rfl, hk, HJ, HB⟩ := hrel
    have hb1 : wr.cell? ⟨bf, 0, none⟩ = some (.int .i64 far) := (HB.out.cell (p := ⟨bf, 0, none⟩) lbf).trans hbf
    have hb2 : wr.cell? ⟨bx, 0, none⟩ = some (.slice A x.length c) := (HB.out.cell (p := ⟨bx, 0, none⟩) lbx).trans hbx
    by_cases hlt : k < x.length - far
    · have hCr := Kd.C_below HC.out HB.out
      obtain ⟨ad, e, hx1⟩ := Kd.at_int hCr ((far : Int) + k) (by omega) (by omega)
      cases e
      obtain ⟨ad', e', hx2⟩ := Kd.at_int hCr (k : Int) (by omega) (by omega)
      cases e'
      rw [Int.toNat_natCast] at hx2
      have by1 := within_rd HW.out (by omega) ((far : Int) + k)
      have by2 := within_rd HW.out (by omega) (k : Int)
      obtain ⟨y1, hy1⟩ : ∃ y, y = rd x ((far : Int) + k) := ⟨_, rfl⟩
      obtain ⟨y2, hy2⟩ : ∃ y, y = rd x (k : Int) := ⟨_, rfl⟩
      rw [← hy1] at hx1 by1
      rw [← hy2] at hx2 by2
      have hpt := prods_take x far k hlt
      rw [show ((far + k : Nat) : Int) = (far : Int) + k by omega, ← hy1, ← hy2] at hpt
      have HPT := Aside0.mk hpt
      have hJd : J ((prods x far).take k) wr.drew := hJ _ _ _ none HJ.out (grown_drew wr) (fun r e => by cases e)
      obtain ⟨fn, tmps, assign, body, hy, hR⟩ := hY _ (y1 * y2) wr.drew hJd (by rw [List.length_take, prods_length]; omega)
      have HRR := Aside0.mk hR
      have hbd : -4398046511104 ≤ y1 * y2 ∧ y1 * y2 ≤ 4398046511104 := by
        constructor
        · rcases Int.le_total 0 y2 with q | q
          · have := Int.mul_le_mul_of_nonneg_right by1.1 q; omega
          · have := Int.mul_le_mul_of_nonpos_right by1.2 q; omega
        · rcases Int.le_total 0 y2 with q | q
          · have := Int.mul_le_mul_of_nonneg_right by1.2 q; omega
          · have := Int.mul_le_mul_of_nonpos_right by1.1 q; omega
      have i1 : (0 : Int) ≤ (far : Int) + k := by omega
      have i2 : (far : Int) + k < (x.length : Int) := by omega
      have i3 : (0 : Int) ≤ (k : Int) := by omega
      have i4 : (k : Int) < (x.length : Int) := by omega
      have w1' : IntKind.i64.wrap (y1 * y2) = y1 * y2 := IntWalk.i64_in _ (by omega)
      have w2' : IntKind.i64.wrap ((far : Int) + k - far) = (k : Int) := by rw [IntWalk.i64_in _ (by omega)]; omega
      have w3' : IntKind.i64.wrap (k : Int) = (k : Int) := IntWalk.i64_in _ (by omega)
      clear hy1 hy2 hpt hCr hR hJd
      gi_wp2
      refine wpIn_region_still_tail (ro := none) 12 (by kernel_rfl) (by kernel_rfl) (by kernel_rfl) ?_
      simp only [List.take_succ_cons, List.take_zero, List.drop_succ_cons, List.drop_zero]
      repeat still_step
      refine wpStill_nil ?_
      change wpListIn Fence.wide _ _ _ _ _ _ wr.drew
      clear w1' w2' w3'
      gi_wp2
      refine ⟨fun h => by simp [Fence.wide] at h, ?_⟩
      refine HRR.out.mono ?_
      rintro e W' (⟨rfl, hJ', hk'⟩ | ⟨rfl, hJx'⟩)
      · have HJ' := Aside0.mk hJ'
        have HK' := Aside0.mk hk'
        clear hJ' hk'
        gi_wp2
        go_roundw
        case rel => exact ⟨k + 1, by go_num, by omega, ⟨by rw [HPT.out]; exact HJ'.out⟩, ⟨HB.out.trans ((Below.drew (Below.refl _ _)).trans HK'.out)⟩⟩
        case measure => simp [intOf]; omega
      · gi_wp2
        refine bodyPost_ret (results_none rfl _ _ _) rfl ?_
        exact ⟨⟨_, rfl⟩, .inr ⟨_, trivial, hJx'⟩⟩
    · have hk1 : k = x.length - far := by omega
      have HE : Aside0 ((prods x far).take k = prods x far) := ⟨by rw [List.take_of_length_le]; rw [prods_length]; omega⟩
      have hlx : ¬ ((far : Int) + k < (x.length : Int)) := by omega
      clear hk1
      gi_wp2
      go_end0
      exact ⟨⟨_, rfl⟩, .inl (by have := HJ.out; rw [HE.out] at this; first | exact this | exact ⟨_, rfl, this⟩)⟩

/-- The sum, as an int goes round. -/
def wsum (l : List Int) : Int := wrap64 l.sum
theorem wsum_snoc (l : List Int) (x : Int) : wrap64 (wsum l + x) = wsum (l ++ [x]) := by
  unfold wsum
  rw [List.sum_append]
  simp only [List.sum_cons, List.sum_nil, Int.add_zero]
  unfold wrap64
  omega

set_option maxHeartbeats 1000000 in
set_option maxRecDepth 100000 in
theorem total_any (bf bx far : Nat) (A : Option Addr) (c : Nat) (x : List Int) (w : World) (hbf : w.cell? ⟨bf, 0, none⟩ = some (.int .i64 far)) (hbx : w.cell? ⟨bx, 0, none⟩ = some (.slice A x.length c))
    (hC : Kd.C (Kd.int .i64) w A x.length x) (hw : within 2097152 x) (hl : x.length ≤ 9000) (hf : far ≤ 100) :
    Calls Try.prog 45 #[.func (.func 52) #[] #[.pointer (some ⟨bf, 0, none⟩), .pointer (some ⟨bx, 0, none⟩)]] w fun e w' => e = .returned (.int .i64 (wsum (prods x far))) ∧ Below w.heap.size w w' := by
  have hst := products_stops 4 bf bx far A c x w hbf hbx hC hw hl hf
  have HST := Aside0.mk hst
  clear hst hC hw hbf hbx
  refine (callsIn_wide (n := 5)).1 ?_
  refine callsIn_of_wp_marks Try.func45 rfl trivial ?_ rfl
  simp only [Try.ntmps45, List.size_toArray, List.length_cons, List.length_nil, Nat.reduceAdd, Nat.reduceSub, Array.replicate_succ, Array.replicate_zero, List.push_toArray, List.append_toArray, List.nil_append, List.cons_append]
  gi_wp2
  refine wpIn_rangeFunc_ownG rfl (by omega) (gf := 52) (lb := #[.pointer (some ⟨bf, 0, none⟩), .pointer (some ⟨bx, 0, none⟩)]) rfl trivial (enters_of Try.func52 (by kernel_rfl) rfl)
    HST.out belowK_t (belowK_b (by simp)) ((Below.refl _ _).alloc (Nat.le_refl _) _) (fun _ => rfl)
    (fun pre W => Boxed W w.heap.size 3 (.int .i64 (wsum pre)) ∧ Below w.heap.size w W)
    (fun _ _ _ => False) ?hI (fun _ _ _ _ _ hs _ _ => hs) ⟨by rw [show wsum [] = 0 from by simp [wsum, wrap64]]; exact Boxed.new w 3 _, (Below.refl _ _).alloc (Nat.le_refl _) _⟩
    (fun v => { tmps := #[.func (.func 52) #[] #[.pointer (some ⟨bf, 0, none⟩), .pointer (some ⟨bx, 0, none⟩)], undef, .int .i64 0, .pointer (some ⟨w.heap.size, 0, none⟩), .int .i64 v, .func (.func 52) #[] #[.pointer (some ⟨bf, 0, none⟩), .pointer (some ⟨bx, 0, none⟩)], .int .i64 v, undef, undef, undef, undef], defers := [] })
    ?assign ?body ?done ?stop
  case hI =>
    intro s A B row hs hg hr
    refine ⟨Boxed.kept hs.1 hg (fun e => ?_), hs.2.grown hg hs.2.size (fun k e => ?_)⟩
    · obtain ⟨_, o, ho, hc⟩ := hr _ e.symm
      have := hs.1.symm.trans ho
      cases this
      cases hc
    · have := (hr k e).1
      simp at this
      omega
  case assign =>
    intro l v W K hK
    gi_wp2
    exact hK
  case body =>
    rintro l pre v W ⟨hb, hB⟩ _
    have hc := hb.cell
    have hf := hb.frozen
    gi_wp2
    refine ⟨(KeepsOthers.setCell _ _ _).from _, (Below.refl w.heap.size W).setCell (p := ⟨w.heap.size, 0, none⟩) (Nat.le_refl _) _, ?_, hB.setCell (Nat.le_refl _) _⟩
    rw [← wsum_snoc]
    exact hb.set _
  case done =>
    rintro D ys W hD rfl ⟨hb, hB⟩ hK
    have hc := hb.cell
    gi_wp2
    refine ⟨by simp, .inl ⟨_, _, rfl, run_takeDeferred hK, ?_⟩⟩
    exact ⟨_, results_tmp rfl _ _ _, rfl, hB.trans (belowK_b (w := w) (Nat.le_refl _) W D _ _ (by simp at hD; omega) hK rfl rfl)⟩
  case stop =>
    rintro D c pre W _ _ h _
    exact h.elim
end Go.Proofs.Ytafdiakomcejjaa.P
