/- Contracts of linear.products and linear.total: an iterator and the sum of what it yields. Contract of linear.normalized. What the closure of linear.reflector holds. The contract of linear.reflector. -/
import Derived.RangeFuncNested
import Derived.RangeFuncBound
import Derived.RangeFuncCalls
import Derived.RangeFuncLeaves
import Derived.Shelf.Abstract
import Derived.Shelf.RegionOpen
import Derived.LoopNIn
import Derived.LoopIn
import Derived.Deep.RegionHeld3
import Derived.Deep.DrawnRows
import Derived.Deep.DeepCutAuto
import Derived.Test.YtjcijaojcgampaaGreatDoorZPl9
import Derived.Test.YtjcijaojcgampaaGreatDoorZPl24
set_option linter.unusedVariables false
set_option linter.unusedSimpArgs false
set_option maxHeartbeats 16000000
set_option maxRecDepth 100000
section
namespace Go.Proofs.YtjcijaojcgampaaGreatDoor.P.Lin
open Go.RowKit Go.Shelf Go.Proofs.YtjcijaojcgampaaGreatDoorW.PrintWords Go.Proofs.YtjcijaojcgampaaGreatDoorW.PrintLast Go.Proofs.YtjcijaojcgampaaGreatDoorW.PrintMore
attribute [local go_sem] Oper.semAt_some
def prods (x : List Int) (far : Nat) : List Int := (List.range (x.length - far)).map fun (j : Nat) => rd x ((far + j : Nat) : Int) * rd x (j : Int)
theorem prods_length (x : List Int) (far : Nat) : (prods x far).length = x.length - far := by simp [prods]
theorem prods_take (x : List Int) (far k : Nat) (h : k < x.length - far) : (prods x far).take (k + 1) = (prods x far).take k ++ [rd x ((far + k : Nat) : Int) * rd x (k : Int)] := by
  rw [List.take_add_one]
  simp [prods, h]
theorem grown_drew (W : World) : W.grownBy W.drew none := ⟨rfl, rfl, rfl, Nat.le_refl _, fun _ _ _ => rfl⟩
theorem products_stops (n bf bx far : Nat) (A : Option Addr) (c : Nat) (x : List Int) (w : World) (hbf : w.cell? ⟨bf, 0, none⟩ = some (.int .i64 far)) (hbx : w.cell? ⟨bx, 0, none⟩ = some (.slice A x.length c))
    (hC : Kd.C (Kd.int .i64) w A x.length x) (hw : within 2097152 x) (hl : x.length ≤ 9000) (hf : far ≤ 100) :
    SeqStopsK Fence.wide n Tryz.prog 191 #[.pointer (some ⟨bf, 0, none⟩), .pointer (some ⟨bx, 0, none⟩)] (fun v : Int => #[Value.int .i64 v]) (Below w.heap.size) (fun xs => xs = prods x far) (fun _ => True) (x.length - far) w := by
  intro l J Jx W hW hJ hJx hY h0
  have HC := Aside0.mk hC
  have HW := Aside0.mk hw
  clear hC hw
  have lbf := World.block_lt_of_cell? w _ hbf
  have lbx := World.block_lt_of_cell? w _ hbx
  have hbfW : W.cell? ⟨bf, 0, none⟩ = some (.int .i64 far) := (hW.cell (p := ⟨bf, 0, none⟩) lbf).trans hbf
  refine callsIn_of_wp Tryz.func191 rfl trivial ?_ rfl
  simp only [Tryz.ntmps191, List.size_toArray, List.length_cons, List.length_nil, Nat.reduceAdd, Nat.reduceSub, Array.replicate_succ, Array.replicate_zero, List.push_toArray, List.append_toArray, List.nil_append, List.cons_append]
  gi_wp2
  gi_loopw [4] (fun u wr => ∃ k : Nat, u = .int .i64 ((far : Int) + k) ∧ k ≤ x.length - far ∧ Aside0 (J ((prods x far).take k) wr) ∧ Aside0 (Below w.heap.size w wr)) (fun u _ => x.length - (intOf u).toNat)
  case atStart => exact ⟨0, by simp, Nat.zero_le _, ⟨by simpa using h0⟩, ⟨hW⟩⟩
  case round =>
    obtain ⟨k, rfl, hk, HJ, HB⟩ := hrel
    have hb1 : wr.cell? ⟨bf, 0, none⟩ = some (.int .i64 far) := (HB.out.cell (p := ⟨bf, 0, none⟩) lbf).trans hbf
    have hb2 : wr.cell? ⟨bx, 0, none⟩ = some (.slice A x.length c) := (HB.out.cell (p := ⟨bx, 0, none⟩) lbx).trans hbx
    by_cases hlt : k < x.length - far
    · have hCr := Kd.C_below HC.out HB.out
      obtain ⟨ad, e, hx1⟩ := Kd.at_int hCr ((far : Int) + k) (by omega) (by omega)
      cases e
      obtain ⟨ad', e', hx2⟩ := Kd.at_int hCr (k : Int) (by omega) (by omega)
      cases e'
      rw [Int.toNat_natCast] at hx2
      have by1 := within_rd HW.out (by omega) ((far : Int) + k)
      have by2 := within_rd HW.out (by omega) (k : Int)
      obtain ⟨y1, hy1⟩ : ∃ y, y = rd x ((far : Int) + k) := ⟨_, rfl⟩
      obtain ⟨y2, hy2⟩ : ∃ y, y = rd x (k : Int) := ⟨_, rfl⟩
      rw [← hy1] at hx1 by1
      rw [← hy2] at hx2 by2
      have hpt := prods_take x far k hlt
      rw [show ((far + k : Nat) : Int) = (far : Int) + k by omega, ← hy1, ← hy2] at hpt
      have HPT := Aside0.mk hpt
      have hJd : J ((prods x far).take k) wr.drew := hJ _ _ _ none HJ.out (grown_drew wr) (fun r e => by cases e)
      obtain ⟨fn, tmps, assign, body, hy, hR⟩ := hY _ (y1 * y2) wr.drew hJd (by rw [List.length_take, prods_length]; omega)
      have HRR := Aside0.mk hR
      have hbd : -4398046511104 ≤ y1 * y2 ∧ y1 * y2 ≤ 4398046511104 := by
        constructor
        · rcases Int.le_total 0 y2 with q | q
          · have := Int.mul_le_mul_of_nonneg_right by1.1 q; omega
          · have := Int.mul_le_mul_of_nonpos_right by1.2 q; omega
        · rcases Int.le_total 0 y2 with q | q
          · have := Int.mul_le_mul_of_nonneg_right by1.2 q; omega
          · have := Int.mul_le_mul_of_nonpos_right by1.1 q; omega
      have i1 : (0 : Int) ≤ (far : Int) + k := by omega
      have i2 : (far : Int) + k < (x.length : Int) := by omega
      have i3 : (0 : Int) ≤ (k : Int) := by omega
      have i4 : (k : Int) < (x.length : Int) := by omega
      have w1' : IntKind.i64.wrap (y1 * y2) = y1 * y2 := IntWalk.i64_in _ (by omega)
      have w2' : IntKind.i64.wrap ((far : Int) + k - far) = (k : Int) := by rw [IntWalk.i64_in _ (by omega)]; omega
      have w3' : IntKind.i64.wrap (k : Int) = (k : Int) := IntWalk.i64_in _ (by omega)
      clear hy1 hy2 hpt hCr hR hJd
      gi_wp2
      refine wpIn_region_still_tail (ro := none) 12 (by kernel_rfl) (by kernel_rfl) (by kernel_rfl) ?_
      simp only [List.take_succ_cons, List.take_zero, List.drop_succ_cons, List.drop_zero]
      repeat still_step
      refine wpStill_nil ?_
      change wpListIn Fence.wide _ _ _ _ _ _ wr.drew
      clear w1' w2' w3'
      gi_wp2
      refine ⟨fun h => by simp [Fence.wide] at h, ?_⟩
      refine HRR.out.mono ?_
      rintro e W' (⟨rfl, hJ', hk'⟩ | ⟨rfl, hJx'⟩)
      · have HJ' := Aside0.mk hJ'
        have HK' := Aside0.mk hk'
        clear hJ' hk'
        gi_wp2
        go_roundw
        case rel => exact ⟨k + 1, by go_num, by omega, ⟨by rw [HPT.out]; exact HJ'.out⟩, ⟨HB.out.trans ((Below.drew (Below.refl _ _)).trans HK'.out)⟩⟩
        case measure => simp [intOf]; omega
      · gi_wp2
        refine bodyPost_ret (results_none rfl _ _ _) rfl ?_
        exact ⟨⟨_, rfl⟩, .inr ⟨_, trivial, hJx'⟩⟩
    · have hk1 : k = x.length - far := by omega
      have HE : Aside0 ((prods x far).take k = prods x far) := ⟨by rw [List.take_of_length_le]; rw [prods_length]; omega⟩
      have hlx : ¬ ((far : Int) + k < (x.length : Int)) := by omega
      clear hk1
      gi_wp2
      go_end0
      exact ⟨⟨_, rfl⟩, .inl (by have := HJ.out; rw [HE.out] at this; first | exact this | exact ⟨_, rfl, this⟩)⟩
def wsum (l : List Int) : Int := wrap64 l.sum
theorem wsum_snoc (l : List Int) (x : Int) : wrap64 (wsum l + x) = wsum (l ++ [x]) := by
  unfold wsum
  rw [List.sum_append]
  simp only [List.sum_cons, List.sum_nil, Int.add_zero]
  unfold wrap64
  omega
theorem total_any (bf bx far : Nat) (A : Option Addr) (c : Nat) (x : List Int) (w : World) (hbf : w.cell? ⟨bf, 0, none⟩ = some (.int .i64 far)) (hbx : w.cell? ⟨bx, 0, none⟩ = some (.slice A x.length c))
    (hC : Kd.C (Kd.int .i64) w A x.length x) (hw : within 2097152 x) (hl : x.length ≤ 9000) (hf : far ≤ 100) :
    Calls Tryz.prog 174 #[.func (.func 191) #[] #[.pointer (some ⟨bf, 0, none⟩), .pointer (some ⟨bx, 0, none⟩)]] w fun e w' => e = .returned (.int .i64 (wsum (prods x far))) ∧ Below w.heap.size w w' := by
  have hst := products_stops 4 bf bx far A c x w hbf hbx hC hw hl hf
  have HST := Aside0.mk hst
  clear hst hC hw hbf hbx
  refine (callsIn_wide (n := 5)).1 ?_
  refine callsIn_of_wp_marks Tryz.func174 rfl trivial ?_ rfl
  simp only [Tryz.ntmps174, List.size_toArray, List.length_cons, List.length_nil, Nat.reduceAdd, Nat.reduceSub, Array.replicate_succ, Array.replicate_zero, List.push_toArray, List.append_toArray, List.nil_append, List.cons_append]
  gi_wp2
  refine wpIn_rangeFunc_ownG rfl (by omega) (gf := 191) (lb := #[.pointer (some ⟨bf, 0, none⟩), .pointer (some ⟨bx, 0, none⟩)]) rfl trivial (enters_of Tryz.func191 (by kernel_rfl) rfl)
    HST.out belowK_t (belowK_b (by simp)) ((Below.refl _ _).alloc (Nat.le_refl _) _) (fun _ => rfl)
    (fun pre W => Boxed W w.heap.size 3 (.int .i64 (wsum pre)) ∧ Below w.heap.size w W)
    (fun _ _ _ => False) ?hI (fun _ _ _ _ _ hs _ _ => hs) ⟨by rw [show wsum [] = 0 from by simp [wsum, wrap64]]; exact Boxed.new w 3 _, (Below.refl _ _).alloc (Nat.le_refl _) _⟩
    (fun v => { tmps := #[.func (.func 191) #[] #[.pointer (some ⟨bf, 0, none⟩), .pointer (some ⟨bx, 0, none⟩)], undef, .int .i64 0, .pointer (some ⟨w.heap.size, 0, none⟩), .int .i64 v, .func (.func 191) #[] #[.pointer (some ⟨bf, 0, none⟩), .pointer (some ⟨bx, 0, none⟩)], .int .i64 v, undef, undef, undef, undef], defers := [] })
    ?assign ?body ?done ?stop
  case hI =>
    intro s A B row hs hg hr
    refine ⟨Boxed.kept hs.1 hg (fun e => ?_), hs.2.grown hg hs.2.size (fun k e => ?_)⟩
    · obtain ⟨_, o, ho, hc⟩ := hr _ e.symm
      have := hs.1.symm.trans ho
      cases this
      cases hc
    · have := (hr k e).1
      simp at this
      omega
  case assign =>
    intro l v W K hK
    gi_wp2
    exact hK
  case body =>
    rintro l pre v W ⟨hb, hB⟩ _
    have hc := hb.cell
    have hf := hb.frozen
    gi_wp2
    refine ⟨(KeepsOthers.setCell _ _ _).from _, (Below.refl w.heap.size W).setCell (p := ⟨w.heap.size, 0, none⟩) (Nat.le_refl _) _, ?_, hB.setCell (Nat.le_refl _) _⟩
    rw [← wsum_snoc]
    exact hb.set _
  case done =>
    rintro D ys W hD rfl ⟨hb, hB⟩ hK
    have hc := hb.cell
    gi_wp2
    refine ⟨by simp, .inl ⟨_, _, rfl, run_takeDeferred hK, ?_⟩⟩
    exact ⟨_, results_tmp rfl _ _ _, rfl, hB.trans (belowK_b (w := w) (Nat.le_refl _) W D _ _ (by simp at hD; omega) hK rfl rfl)⟩
  case stop =>
    rintro D c pre W _ _ h _
    exact h.elim
end Go.Proofs.YtjcijaojcgampaaGreatDoor.P.Lin
end
section
namespace Go.Proofs.YtjcijaojcgampaaGreatDoor.P.Lin
open Go.RowKit Go.Shelf Go.Proofs.YtjcijaojcgampaaGreatDoorW.PrintWords Go.Proofs.YtjcijaojcgampaaGreatDoorW.PrintLast Go.Proofs.YtjcijaojcgampaaGreatDoorW.PrintMore
def shfrom (s : Int) : Nat → Nat → Nat
  | 0, h => h
  | f + 1, h => if s / 2 ^ h < 1073741824 then h else shfrom s f (h + 1)
def shf (s : Int) : Nat := shfrom s 64 0
def autos (x : List Int) (order : Nat) : List Int := (List.range (order + 1)).map fun j => wsum (prods x j)
def normd (x : List Int) (order : Nat) : List Int := (autos x order).map fun s => s / 2 ^ shf (rd (autos x order) 0)
theorem autos_take (x : List Int) (o k : Nat) (h : k < o + 1) : (autos x o).take (k + 1) = (autos x o).take k ++ [wsum (prods x k)] := by
  rw [List.take_add_one]
  simp [autos, h]
theorem autos_length (x : List Int) (o : Nat) : (autos x o).length = o + 1 := by simp [autos]
theorem sum_bound (B : Int) (hB : 0 ≤ B) : ∀ (l : List Int), (∀ x ∈ l, -B ≤ x ∧ x ≤ B) → -(B * l.length) ≤ l.sum ∧ l.sum ≤ B * l.length
  | [], _ => by simp
  | x :: l, h => by
    have h1 := h x (by simp)
    have h2 := sum_bound B hB l (fun y hy => h y (List.mem_cons_of_mem _ hy))
    have e : B * ((x :: l).length : Int) = B * (l.length : Int) + B := by
      rw [List.length_cons]
      push_cast
      rw [Int.mul_add]
      omega
    rw [List.sum_cons]
    omega
theorem sum_nonneg : ∀ (l : List Int), (∀ x ∈ l, 0 ≤ x) → 0 ≤ l.sum
  | [], _ => by simp
  | x :: l, h => by
    have h1 := h x (by simp)
    have h2 := sum_nonneg l (fun y hy => h y (List.mem_cons_of_mem _ hy))
    rw [List.sum_cons]
    omega
theorem mul_bound {a b A B : Int} (ha : -A ≤ a ∧ a ≤ A) (hb : -B ≤ b ∧ b ≤ B) : -(A * B) ≤ a * b ∧ a * b ≤ A * B := by
  have hA : 0 ≤ A := by omega
  have hB : 0 ≤ B := by omega
  have h0 := Int.mul_le_mul_of_nonneg_left hb.2 hA
  have h1 := Int.mul_le_mul_of_nonneg_left (show -b ≤ B by omega) hA
  rw [Int.mul_neg] at h1
  constructor
  · rcases Int.le_total 0 b with q | q
    · have := Int.mul_le_mul_of_nonneg_right ha.1 q
      rw [Int.neg_mul] at this
      omega
    · have := Int.mul_le_mul_of_nonpos_right ha.2 q
      omega
  · rcases Int.le_total 0 b with q | q
    · have := Int.mul_le_mul_of_nonneg_right ha.2 q
      omega
    · have := Int.mul_le_mul_of_nonpos_right ha.1 q
      rw [Int.neg_mul] at this
      omega
theorem prods_bound {x : List Int} (hw : within 2097152 x) (far : Nat) : ∀ y ∈ prods x far, -4398046511104 ≤ y ∧ y ≤ 4398046511104 := by
  intro y hy
  obtain ⟨j, _, rfl⟩ := List.mem_map.1 hy
  have := mul_bound (within_rd hw (by omega) ((far + j : Nat) : Int)) (within_rd hw (by omega) (j : Int))
  omega
theorem wsum_prods {x : List Int} (hw : within 2097152 x) (hl : x.length ≤ 9000) (far : Nat) : wsum (prods x far) = (prods x far).sum ∧ -39582418599936000 ≤ wsum (prods x far) ∧ wsum (prods x far) ≤ 39582418599936000 := by
  have h := sum_bound 4398046511104 (by omega) (prods x far) (prods_bound hw far)
  have hl' := prods_length x far
  have e : wsum (prods x far) = (prods x far).sum := wrap64_id (by omega) (by omega)
  exact ⟨e, by omega, by omega⟩
theorem prods_zero_nonneg {x : List Int} (hw : within 2097152 x) (hl : x.length ≤ 9000) : 0 ≤ wsum (prods x 0) := by
  rw [(wsum_prods hw hl 0).1]
  refine sum_nonneg _ (fun y hy => ?_)
  obtain ⟨j, _, rfl⟩ := List.mem_map.1 hy
  rw [Nat.zero_add]
  rcases Int.le_total 0 (rd x (j : Int)) with q | q
  · exact Int.mul_nonneg q q
  · exact Int.mul_nonneg_of_nonpos_of_nonpos q q
theorem shfrom_step (s : Int) (f h : Nat) (hh : 1073741824 ≤ s / 2 ^ h) : shfrom s (f + 1) h = shfrom s f (h + 1) := by
  rw [shfrom, if_neg (by omega)]
theorem shfrom_stop (s : Int) (f h : Nat) (hh : s / 2 ^ h < 1073741824) : shfrom s (f + 1) h = h := by
  rw [shfrom, if_pos hh]
theorem div_pow_le (s : Int) (h : Nat) (h0 : 0 ≤ s) (h1 : s ≤ 39582418599936000) (hh : 1073741824 ≤ s / 2 ^ h) : h ≤ 26 := by
  rcases Nat.lt_or_ge h 27 with q | q
  · omega
  · exfalso
    have hp : (2 : Int) ^ 27 ≤ 2 ^ h := by
      have := Nat.pow_le_pow_right (show 0 < 2 by omega) q
      exact_mod_cast this
    have : s / 2 ^ h ≤ s / 2 ^ 27 := by
      have hpos : (0 : Int) < 2 ^ h := by have : (0 : Int) < 2 ^ 27 := by decide
                                          omega
      rw [Int.le_ediv_iff_mul_le (by decide)]
      have e1 := Int.ediv_mul_le s (show (2 : Int) ^ h ≠ 0 by omega)
      have e2 : 0 ≤ s / 2 ^ h := Int.ediv_nonneg h0 (by omega)
      have e3 := Int.mul_le_mul_of_nonneg_left hp e2
      omega
    have : s / 2 ^ 27 ≤ 39582418599936000 / 2 ^ 27 := Int.ediv_le_ediv (by decide) h1
    have : (39582418599936000 : Int) / 2 ^ 27 = 294912000 := by decide
    omega
def updTo (f : Int → Int) (l : List Int) (n : Nat) : List Int := (l.take n).map f ++ l.drop n
theorem updTo_length (f : Int → Int) (l : List Int) (n : Nat) : (updTo f l n).length = l.length := by simp [updTo]; omega
theorem updTo_rd (f : Int → Int) (l : List Int) (n : Nat) (h : n < l.length) : rd (updTo f l n) (n : Int) = rd l (n : Int) := by
  unfold updTo
  rw [drop_head l n h]
  simp [rd, List.getD_eq_getElem?_getD, List.getElem?_append_right, Nat.min_eq_left (Nat.le_of_lt h), h]
theorem updTo_set (f : Int → Int) (l : List Int) (n : Nat) (h : n < l.length) : (updTo f l n).set n (f (rd l (n : Int))) = updTo f l (n + 1) := by
  have h1 := drop_head l n h
  have h2 : l.take (n + 1) = l.take n ++ [rd l (n : Int)] := by
    rw [List.take_add_one, List.getElem?_eq_getElem h]
    simp [rd, List.getD_eq_getElem?_getD, h]
  unfold updTo
  rw [h1, h2, List.set_append]
  simp [Nat.min_eq_left (Nat.le_of_lt h)]
theorem products_any (A : Option Addr) (n c : Nat) (far : Int) (w : World) :
    Calls Tryz.prog 175 #[.slice A n c, .int .i64 far] w fun e w' => e = .returned (.func (.func 191) #[] #[.pointer (some ⟨w.heap.size + 1, 0, none⟩), .pointer (some ⟨w.heap.size, 0, none⟩)]) ∧ w' = (w.alloc (.cells #[.slice A n c] 22)).alloc (.cells #[.int .i64 far] 3) := by
  go_enter Tryz.func175, Tryz.ntmps175
  go_wp2
  go_ret
  exact ⟨rfl, rfl⟩
theorem normalized_any (A : Option Addr) (c : Nat) (x : List Int) (o : Nat) (w : World) (hC : Kd.C (Kd.int .i64) w A x.length x) (hw : within 2097152 x) (hl : x.length ≤ 9000) (ho : o ≤ 12) :
    Calls Tryz.prog 135 #[.slice A x.length c, .int .i64 o] w fun e w' => ∃ v : Value, e = .returned v ∧ Kd.R (Kd.int .i64) 3 w' w.heap.size (fun _ => True) v (normd x o) ∧ Below w.heap.size w w' := by
  have HC := Aside0.mk hC
  have HW := Aside0.mk hw
  clear hC hw
  go_enter Tryz.func135, Tryz.ntmps135
  go_wp2
  go_step3
  go_wp2
  go_loopw [5, 11] (fun v u wr => ∃ k : Nat, k ≤ o + 1 ∧ u = .int .i64 k ∧ Aside0 (Kd.R (Kd.int .i64) 3 wr w.heap.size (fun _ => True) v ((autos x o).take k)) ∧ Aside0 (Below w.heap.size w wr)) (fun _ u _ => o + 1 - (intOf u).toNat)
  case atStart => exact ⟨0, Nat.zero_le _, rfl, ⟨by simpa using Kd.R_nil _ _ _ _ _⟩, ⟨Below.refl _ _⟩⟩
  case round =>
    obtain ⟨k, hk, rfl, HO, HB⟩ := hrel
    obtain ⟨Av, cv, hv, hcv, hCv⟩ := Kd.R_reads HO.out
    rw [List.length_take, autos_length, Nat.min_eq_left hk] at hv hcv hCv
    by_cases hlt : k < o + 1
    · cases hv
      have HT := Aside0.mk (autos_take x o k hlt)
      have HLk := Aside0.mk (show ((autos x o).take k).length = k by rw [List.length_take, autos_length]; omega)
      have hsz := HB.out.size
      clear hCv
      go_wp2_with (first
        | (go_at_call 175; refine (products_any A x.length c _ _).mono ?_; rintro e w1 ⟨rfl, rfl⟩)
        | (go_at_call 174; refine (total_any _ _ k A c x _ (by simp) (by simp) (Kd.C_alloc (Kd.C_alloc (Kd.C_below HC.out HB.out) _) _) HW.out hl (by omega)).mono ?_; rintro e w2 ⟨rfl, hb2⟩; have HB2 := Aside0.mk (HB.out.trans ((((Below.refl wr.heap.size wr).alloc (Nat.le_refl _) _).alloc (by simp) _).trans (hb2.mono (by simp; omega)) |>.mono hsz)); have HO2 := Aside0.mk (Kd.R_below (Kd.R_alloc (Kd.R_alloc HO.out _) _) hb2); clear hb2)
        | (at_builtin; refine Kd.R_append (Kd.int .i64) (w0 := w) w.heap.size rfl (.tmp 14) (.tmp 19) 22 3 (.int .i64 0) 8 rfl Tryz.underlying22 hinfo3 rfl (by decide) (by omega) _ ((autos x o).take k) (wsum (prods x k)) [.int .i64 (wsum (prods x k))] (fun _ => True) (fun _ => False) rfl rfl rfl (fun _ hk => hk.elim) (fun _ _ => trivial) HO2.out HB2.out HB2.out.size (by rw [HLk.out]; omega) ?_; intro v3 w3 ho hb hg hat; rw [← HT.out] at ho; have HO3 := Aside0.mk ho; have HB3 := Aside0.mk hb; clear ho hb hg hat))
      go_roundw
      case rel => exact ⟨k + 1, by omega, by go_num, HO3, HB3⟩
      case measure => simp [intOf]; omega
    · obtain rfl : k = o + 1 := by omega
      rw [List.take_of_length_le (by rw [autos_length]; exact Nat.le_refl _)] at HO
      cases hv
      clear hCv
      go_wp2
      go_step3
      go_wp2
      obtain ⟨g, cap, e, hbg, hgl, cells, hcells⟩ := Kd.R_form HO.out (by rw [autos_length]; omega)
      rw [autos_length] at e
      cases e
      have hc0 := Kd.R_cell (W := wr) (0 : Int) (by rw [autos_length]; exact HO.out) 0 (by omega) (by rw [autos_length]; omega)
      obtain ⟨s, hs⟩ : ∃ s, s = rd (autos x o) 0 := ⟨_, rfl⟩
      have hs0 : s = wsum (prods x 0) := by rw [hs]; simp [autos, rd, List.getD_eq_getElem?_getD]
      have hcs : wr.cell? ⟨g, 0, none⟩ = some (.int .i64 s) := by rw [hs]; exact hc0.1
      have b0 : 0 ≤ s := by rw [hs0]; exact prods_zero_nonneg HW.out hl
      have b1 : s ≤ 39582418599936000 := by rw [hs0]; exact (wsum_prods HW.out hl 0).2.2
      have HS := Aside0.mk hs
      clear hs hs0 hc0 hcells
      go_loop [7] (fun u => ∃ h : Nat, u = .int .i64 h ∧ h ≤ 27 ∧ Aside0 (shf s = shfrom s (64 - h) h)) (fun u => 64 - (intOf u).toNat)
      case atStart => exact ⟨0, rfl, by omega, ⟨rfl⟩⟩
      case round =>
        obtain ⟨h, rfl, hh, HE⟩ := hrel
        by_cases hq : s / 2 ^ h < 1073741824
        · have HSH : Aside0 (shf s = h) := ⟨by rw [HE.out, show 64 - h = (63 - h) + 1 by omega, shfrom_stop _ _ _ hq]⟩
          go_wp2
          go_loopw [8, 32] (fun _ u wr => ∃ k : Nat, u = .int .i64 k ∧ k ≤ o + 1 ∧ Aside0 (Kd.R (Kd.int .i64) 3 wr w.heap.size (fun _ => True) (.slice (some ⟨g, 0, none⟩) (o + 1) cv) (updTo (fun s => s / 2 ^ h) (autos x o) k)) ∧ Aside0 (Below w.heap.size w wr)) (fun _ u _ => o + 1 - (intOf u).toNat)
          case atStart => exact ⟨0, rfl, by omega, by simpa [updTo] using HO, HB⟩
          case round =>
            obtain ⟨k, rfl, hk, HOk, HBk⟩ := hrel
            have hul := updTo_length (fun s => s / 2 ^ h) (autos x o) k
            rw [autos_length] at hul
            by_cases hlt : k < o + 1
            · have hc1 := Kd.R_cell (W := wr) (0 : Int) (by rw [hul]; exact HOk.out) (k : Int) (by omega) (by omega)
              rw [Int.toNat_natCast] at hc1
              have HST := Aside0.mk (updTo_set (fun s => s / 2 ^ h) (autos x o) k (by rw [autos_length]; omega))
              have hrd := updTo_rd (fun s => s / 2 ^ h) (autos x o) k (by rw [autos_length]; omega)
              obtain ⟨y, hy⟩ : ∃ y, y = rd (autos x o) (k : Int) := ⟨_, rfl⟩
              have hck : wr.cell? ⟨g, k, none⟩ = some (.int .i64 y) := by rw [hc1.1, hy, ← hrd]; rfl
              have hfk := hc1.2
              rw [← hy] at HST
              have HL := Aside0.mk hul
              have i1 : (0 : Int) ≤ (k : Int) := by omega
              have i2 : (k : Int) < (o : Int) + 1 := by omega
              clear hc1 hrd hy hul
              go_wp2
              go_roundw
              case rel =>
                have hput := Kd.R_put (W := wr) (by rw [HL.out]; exact HOk.out) (k : Int) (y / 2 ^ h)
                rw [Int.toNat_natCast, HST.out, HL.out] at hput
                exact ⟨k + 1, by go_num, by omega, ⟨hput.1⟩, ⟨HBk.out.setCell hbg _⟩⟩
              case measure => simp [intOf]; omega
            · obtain rfl : k = o + 1 := by omega
              have HF : Aside0 (updTo (fun s => s / 2 ^ h) (autos x o) (o + 1) = normd x o) := ⟨by
                unfold updTo normd
                rw [List.take_of_length_le (by rw [autos_length]; exact Nat.le_refl _), List.drop_of_length_le (by rw [autos_length]; exact Nat.le_refl _), List.append_nil, ← HS.out, HSH.out]⟩
              clear hul
              go_wp2
              try rw [Exit.noGoto_ret]
              go_ret
              exact ⟨_, rfl, by rw [← HF.out]; exact HOk.out, HBk.out⟩
        · have hn := div_pow_le s h b0 b1 (by omega)
          have HE2 : Aside0 (shf s = shfrom s (64 - (h + 1)) (h + 1)) := ⟨by rw [HE.out, show 64 - h = (64 - (h + 1)) + 1 by omega, shfrom_step _ _ _ (by omega)]⟩
          go_wp2
          go_round
          case rel => exact ⟨h + 1, by go_num, by omega, HE2⟩
          case measure => simp [intOf]; omega
end Go.Proofs.YtjcijaojcgampaaGreatDoor.P.Lin
end
section
namespace Go.Proofs.YtjcijaojcgampaaGreatDoor.P.Lin
open Go.RowKit Go.Shelf Go.Proofs.YtjcijaojcgampaaGreatDoorW.PrintWords Go.Proofs.YtjcijaojcgampaaGreatDoorW.PrintLast Go.Proofs.YtjcijaojcgampaaGreatDoorW.PrintMore
attribute [local go_sem ↓] Go.wp_at_zero Go.wp_at_succ
def Refl (w : World) (base bu bv : Nat) (u v : List Int) : Prop :=
  ∃ U V : Value, w.heap[bu]? = some (.cells #[U] 22 (0, 0)) ∧ w.heap[bv]? = some (.cells #[V] 22 (0, 0)) ∧ Kd.R (Kd.int .i64) 3 w base (fun _ => True) U u ∧ Kd.R (Kd.int .i64) 3 w base (fun _ => True) V v ∧ bu ≠ bv
def Two (w W : World) (bx b' : Nat) (X Y : Value) (xs ys : List Int) : Prop :=
  W.heap[bx]? = some (.cells #[X] 22 (0, 0)) ∧ W.heap[b']? = some (.cells #[Y] 22 (0, 0)) ∧ Kd.R (Kd.int .i64) 3 W w.heap.size (fun _ => True) X xs ∧ Kd.R (Kd.int .i64) 3 W w.heap.size (fun _ => True) Y ys ∧ bx ≠ b' ∧ w.heap.size ≤ bx ∧ w.heap.size ≤ b' ∧ Below w.heap.size w W
theorem blk_alloc {W : World} {k : Nat} {q : Obj} (h : W.heap[k]? = some q) (o : Obj) : (W.alloc o).heap[k]? = some q := by
  rw [Below.heap_alloc _ _ _ (lt_of_block h)]; exact h
theorem R_box {W : World} {base b : Nat} {v u u' : Value} {l : List Int} (h : Kd.R (Kd.int .i64) 3 W base (fun _ => True) v l) (hb : W.heap[b]? = some (.cells #[u'] 22 (0, 0))) : Kd.R (Kd.int .i64) 3 (W.setCell ⟨b, 0, none⟩ u) base (fun _ => True) v l :=
  Kd.R_set h hb (by simp [Kd.int, Kd.scalar]) 0 u
theorem cut_from_any (ad : Addr) (c n : Nat) (AD : Option Addr) (h : (if c = 1 then some ad else (some ad).map (·.add 1)) = AD) : ∀ W : World, (Instr.slice 22 (.slice (some ad) (n + 1) c) (some (.int .i64 1)) none none).run Tryz.prog W = .ok (.slice AD n (c - 1)) W := by
  intro W
  subst h
  have := cut_from (P := Tryz.prog) 22 3 .i64 Tryz.underlying22 (i := _) rfl 1 rfl (some ad) (n + 1) c 1 (by omega) (by omega) W
  simpa using this
def Row (w : World) (base n : Nat) (v : Value) (l : List Int) : Prop := ∃ A k, v = .slice A n k ∧ Kd.R (Kd.int .i64) 3 w base (fun _ => True) (.slice A n k) l
def Box (w : World) (base : Nat) (p v : Value) (st : Bool) : Prop := ∃ b x, p = .pointer (some ⟨b, 0, none⟩) ∧ base ≤ b ∧ w.heap[b]? = some (.cells #[x] 22 (0, 0)) ∧ (st = true → x = v) ∧ x.oneCell' = true
structure RI (w0 : World) (n : Nat) (g t : List Int) (B : Nat → Bool) (p3 p4 v7 v13 : Value) (w : World) : Prop where
  r7 : B 2 = true → Row w w0.heap.size n v7 g
  r13 : B 8 = true → Row w w0.heap.size n v13 t
  b3 : B 9 = true → Box w w0.heap.size p3 v7 (B 11)
  b4 : B 10 = true → Box w w0.heap.size p4 v13 (B 12)
  ne : B 9 = true → B 10 = true → p3 ≠ p4
  o11 : B 11 = true → B 2 = true ∧ B 9 = true
  o12 : B 12 = true → B 8 = true ∧ B 10 = true
  below : Below w0.heap.size w0 w
def upd (B : Nat → Bool) (i : Nat) : Nat → Bool := fun k => if k = i then true else B k
theorem upd_listed {listed : Array Bool} {i : Nat} (h : i < listed.size) : (fun k => (listed.setIfInBounds i true).getD k false) = upd (fun k => listed.getD k false) i := by
  funext k
  unfold upd
  by_cases hk : k = i
  · subst hk; simp [Array.getD_eq_getD_getElem?, Array.getElem?_setIfInBounds, h]
  · simp [Array.getD_eq_getD_getElem?, Array.getElem?_setIfInBounds, hk, Ne.symm hk]
theorem getD_set_mono {L : Array Bool} {i k : Nat} (h : L.getD k false = true) : (L.setIfInBounds i true).getD k false = true := by
  rw [Array.getD_eq_getD_getElem?] at h ⊢
  rw [Array.getElem?_setIfInBounds]
  split
  · split
    · rfl
    · rename_i h1 h2
      subst h1
      rw [Array.getElem?_eq_none (by omega)] at h
      cases h
  · exact h
theorem getD_no {L : Array Bool} {k : Nat} (h : L.getD k true = false) : L.getD k false = false := by
  rw [Array.getD_eq_getD_getElem?] at h ⊢
  cases e : L[k]? with
  | none => rw [e] at h; cases h
  | some b => rw [e] at h; exact h
theorem getD_in {L : Array Bool} {k : Nat} (hk : k < L.size) (h : L.getD k true = true) : L.getD k false = true := by
  rw [Array.getD_eq_getD_getElem?, Array.getElem?_eq_getElem hk] at h ⊢
  exact h
theorem getD_yes {L : Array Bool} {k : Nat} (h : L.getD k false = true) : L.getD k true = true := by
  rw [Array.getD_eq_getD_getElem?] at h ⊢
  cases e : L[k]? with
  | none => rfl
  | some b => rw [e] at h; exact h
def Quiet (L : Array Bool) : Prop := L.getD 0 false = true ∧ L.getD 1 false = true ∧ L.getD 3 false = true ∧ L.getD 4 false = true ∧ L.getD 5 false = true ∧ L.getD 6 false = true ∧ L.getD 7 false = true
theorem Quiet.set {L : Array Bool} (h : Quiet L) (i : Nat) : Quiet (L.setIfInBounds i true) :=
  ⟨getD_set_mono h.1, getD_set_mono h.2.1, getD_set_mono h.2.2.1, getD_set_mono h.2.2.2.1, getD_set_mono h.2.2.2.2.1, getD_set_mono h.2.2.2.2.2.1, getD_set_mono h.2.2.2.2.2.2⟩
theorem Quiet.other {L : Array Bool} (h : Quiet L) {i : Nat} (hi : i < 13) (hf : L.getD i true = false) : i = 2 ∨ i = 8 ∨ i = 9 ∨ i = 10 ∨ i = 11 ∨ i = 12 := by
  obtain ⟨h0, h1, h3, h4, h5, h6, h7⟩ := h
  have n : ∀ k, L.getD k false = true → i ≠ k := by
    rintro k hk rfl
    rw [getD_yes hk] at hf
    cases hf
  have := n 0 h0
  have := n 1 h1
  have := n 3 h3
  have := n 4 h4
  have := n 5 h5
  have := n 6 h6
  have := n 7 h7
  omega
theorem Row.keep {w w1 : World} {base n : Nat} {v : Value} {l : List Int} (h : Row w base n v l) (hb : Below w.heap.size w w1) : Row w1 base n v l := by
  obtain ⟨A, k, e, hR⟩ := h
  exact ⟨A, k, e, Kd.R_below hR hb⟩
theorem Box.keep {w w1 : World} {base : Nat} {p v : Value} {st : Bool} (h : Box w base p v st) (hb : Below w.heap.size w w1) : Box w1 base p v st := by
  obtain ⟨b, x, e, h0, h1, h2⟩ := h
  exact ⟨b, x, e, h0, (hb.block b (lt_of_block h1)).trans h1, h2⟩
section
variable {w0 w w1 : World} {n : Nat} {g t : List Int} {B : Nat → Bool} {p3 p4 v7 v13 : Value}
theorem RI.init (h2 : B 2 = false) (h8 : B 8 = false) (h9 : B 9 = false) (h10 : B 10 = false) (h11 : B 11 = false) (h12 : B 12 = false) : RI w n g t B p3 p4 v7 v13 w.drew :=
  ⟨(fun q => by rw [h2] at q; cases q), (fun q => by rw [h8] at q; cases q), (fun q => by rw [h9] at q; cases q), (fun q => by rw [h10] at q; cases q), (fun q => by rw [h9] at q; cases q), (fun q => by rw [h11] at q; cases q), (fun q => by rw [h12] at q; cases q), below_drew (Below.refl _ _)⟩
theorem RI.call1 (h : RI w0 n g t B p3 p4 v7 v13 w) (hf : B 2 = false) (hb : Below w.heap.size w w1) (v : Value) (hr : Row w1 w0.heap.size n v g) : RI w0 n g t (upd B 2) p3 p4 v v13 w1 := by
  have n11 : B 11 = false := by cases e : B 11 with
    | false => rfl
    | true => have := (h.o11 e).1; rw [hf] at this; cases this
  refine ⟨fun _ => hr, fun q => (h.r13 (by simpa [upd] using q)).keep hb, fun q => ?_, fun q => (h.b4 (by simpa [upd] using q)).keep hb, fun q q' => h.ne (by simpa [upd] using q) (by simpa [upd] using q'), fun q => by simp [upd, n11] at q, fun q => by simpa [upd] using h.o12 (by simpa [upd] using q), below_step h.below hb⟩
  have hq := (h.b3 (by simpa [upd] using q)).keep hb
  rw [n11] at hq
  obtain ⟨b, x, e, h0, h1, _, h3⟩ := hq
  exact ⟨b, x, e, h0, h1, fun q => by simp [upd, n11] at q, h3⟩
theorem RI.call2 (h : RI w0 n g t B p3 p4 v7 v13 w) (hf : B 8 = false) (hb : Below w.heap.size w w1) (v : Value) (hr : Row w1 w0.heap.size n v t) : RI w0 n g t (upd B 8) p3 p4 v7 v w1 := by
  have n12 : B 12 = false := by cases e : B 12 with
    | false => rfl
    | true => have := (h.o12 e).1; rw [hf] at this; cases this
  refine ⟨fun q => (h.r7 (by simpa [upd] using q)).keep hb, fun _ => hr, fun q => (h.b3 (by simpa [upd] using q)).keep hb, fun q => ?_, fun q q' => h.ne (by simpa [upd] using q) (by simpa [upd] using q'), fun q => by simpa [upd] using h.o11 (by simpa [upd] using q), fun q => by simp [upd, n12] at q, below_step h.below hb⟩
  have hq := (h.b4 (by simpa [upd] using q)).keep hb
  rw [n12] at hq
  obtain ⟨b, x, e, h0, h1, _, h3⟩ := hq
  exact ⟨b, x, e, h0, h1, fun q => by simp [upd, n12] at q, h3⟩
abbrev nilBox : Obj := .cells #[.slice none 0 0] 22 (0, 0)
theorem box_new (w : World) (base : Nat) (hb : base ≤ w.heap.size) (v : Value) : Box (w.alloc nilBox) base (.pointer (some ⟨w.heap.size, 0, none⟩)) v false :=
  ⟨_, _, rfl, hb, blk_new w nilBox, (fun q => by cases q), rfl⟩
theorem ptr_ne {a b : Nat} (h : a ≠ b) : Value.pointer (some ⟨a, 0, none⟩) ≠ Value.pointer (some ⟨b, 0, none⟩) := by
  intro e
  injection e with e
  injection e with e
  injection e with e
  exact h e
theorem RI.box1 (h : RI w0 n g t B p3 p4 v7 v13 w) (hf : B 9 = false) : RI w0 n g t (upd B 9) (.pointer (some ⟨w.heap.size, 0, none⟩)) p4 v7 v13 (w.alloc nilBox) := by
  have hb : Below w.heap.size w (w.alloc nilBox) := below_alloc (Below.refl _ _) _
  have n11 : B 11 = false := by cases e : B 11 with
    | false => rfl
    | true => have := (h.o11 e).2; rw [hf] at this; cases this
  refine ⟨fun q => (h.r7 (by simpa [upd] using q)).keep hb, fun q => (h.r13 (by simpa [upd] using q)).keep hb, fun _ => ?_, fun q => (h.b4 (by simpa [upd] using q)).keep hb, fun _ q' => ?_, fun q => by simp [upd, n11] at q, fun q => by simpa [upd] using h.o12 (by simpa [upd] using q), below_step h.below hb⟩
  · have := box_new w w0.heap.size h.below.size v7
    simpa [upd, n11] using this
  · obtain ⟨b, x, e, h0, h1, _⟩ := h.b4 (by simpa [upd] using q')
    have := lt_of_block h1
    rw [e]
    exact ptr_ne (by omega)
theorem RI.box2 (h : RI w0 n g t B p3 p4 v7 v13 w) (hf : B 10 = false) : RI w0 n g t (upd B 10) p3 (.pointer (some ⟨w.heap.size, 0, none⟩)) v7 v13 (w.alloc nilBox) := by
  have hb : Below w.heap.size w (w.alloc nilBox) := below_alloc (Below.refl _ _) _
  have n12 : B 12 = false := by cases e : B 12 with
    | false => rfl
    | true => have := (h.o12 e).2; rw [hf] at this; cases this
  refine ⟨fun q => (h.r7 (by simpa [upd] using q)).keep hb, fun q => (h.r13 (by simpa [upd] using q)).keep hb, fun q => (h.b3 (by simpa [upd] using q)).keep hb, fun _ => ?_, fun q' _ => ?_, fun q => by simpa [upd] using h.o11 (by simpa [upd] using q), fun q => by simp [upd, n12] at q, below_step h.below hb⟩
  · have := box_new w w0.heap.size h.below.size v13
    simpa [upd, n12] using this
  · obtain ⟨b, x, e, h0, h1, _⟩ := h.b3 (by simpa [upd] using q')
    have := lt_of_block h1
    rw [e]
    exact ptr_ne (by omega)
theorem Row.box {w : World} {base n b : Nat} {v u x : Value} {l : List Int} (h : Row w base n v l) (hb : w.heap[b]? = some (.cells #[x] 22 (0, 0))) : Row (w.setCell ⟨b, 0, none⟩ u) base n v l := by
  obtain ⟨A, k, e, hR⟩ := h
  exact ⟨A, k, e, R_box hR hb⟩
theorem Box.other {w : World} {base b : Nat} {p v u : Value} {st : Bool} (h : Box w base p v st) (hp : Value.pointer (some ⟨b, 0, none⟩) ≠ p) : Box (w.setCell ⟨b, 0, none⟩ u) base p v st := by
  obtain ⟨b', x, e, h0, h1, h2⟩ := h
  exact ⟨b', x, e, h0, (Below.heap_setCell _ _ _ _ (by rintro rfl; exact hp e.symm)).trans h1, h2⟩
theorem RI.store1 {b : Nat} {x : Value} (h : RI w0 n g t B (.pointer (some ⟨b, 0, none⟩)) p4 v7 v13 w) (h9 : B 9 = true) (h2 : B 2 = true) (h0 : w0.heap.size ≤ b) (hx : w.heap[b]? = some (.cells #[x] 22 (0, 0))) (hv : v7.oneCell' = true) :
    RI w0 n g t (upd B 11) (.pointer (some ⟨b, 0, none⟩)) p4 v7 v13 (w.setCell ⟨b, 0, none⟩ v7) :=
  ⟨fun _ => (h.r7 h2).box hx, fun q => (h.r13 (by simpa [upd] using q)).box hx, fun _ => ⟨b, v7, rfl, h0, one_setCell hx, fun _ => rfl, hv⟩, fun q => (h.b4 (by simpa [upd] using q)).other (h.ne h9 (by simpa [upd] using q)),
    fun _ q' => h.ne h9 (by simpa [upd] using q'), fun _ => ⟨by simpa [upd] using h2, by simpa [upd] using h9⟩, fun q => by simpa [upd] using h.o12 (by simpa [upd] using q), h.below.setCell h0 _⟩
theorem RI.store2 {b : Nat} {x : Value} (h : RI w0 n g t B p3 (.pointer (some ⟨b, 0, none⟩)) v7 v13 w) (h9 : B 10 = true) (h2 : B 8 = true) (h0 : w0.heap.size ≤ b) (hx : w.heap[b]? = some (.cells #[x] 22 (0, 0))) (hv : v13.oneCell' = true) :
    RI w0 n g t (upd B 12) p3 (.pointer (some ⟨b, 0, none⟩)) v7 v13 (w.setCell ⟨b, 0, none⟩ v13) :=
  ⟨fun q => (h.r7 (by simpa [upd] using q)).box hx, fun _ => (h.r13 h2).box hx, fun q => (h.b3 (by simpa [upd] using q)).other (fun e => h.ne (by simpa [upd] using q) h9 e.symm), fun _ => ⟨b, v13, rfl, h0, one_setCell hx, fun _ => rfl, hv⟩,
    fun q _ => h.ne (by simpa [upd] using q) h9, fun q => by simpa [upd] using h.o11 (by simpa [upd] using q), fun _ => ⟨by simpa [upd] using h2, by simpa [upd] using h9⟩, h.below.setCell h0 _⟩
theorem RI.ends (h : RI w0 n g t B p3 p4 v7 v13 w) (hB : ∀ k, k < 13 → B k = true) : ∃ bu bv U V, p3 = .pointer (some ⟨bu, 0, none⟩) ∧ p4 = .pointer (some ⟨bv, 0, none⟩) ∧ Two w0 w bu bv U V g t := by
  obtain ⟨A7, k7, e7, R7⟩ := h.r7 (hB 2 (by omega))
  obtain ⟨A13, k13, e13, R13⟩ := h.r13 (hB 8 (by omega))
  obtain ⟨bu, x, e3, h3, hx3, hs3, _⟩ := h.b3 (hB 9 (by omega))
  obtain ⟨bv, y, e4, h4, hx4, hs4, _⟩ := h.b4 (hB 10 (by omega))
  have hne := h.ne (hB 9 (by omega)) (hB 10 (by omega))
  obtain rfl := hs3 (hB 11 (by omega))
  obtain rfl := hs4 (hB 12 (by omega))
  subst e7
  subst e13
  refine ⟨bu, bv, _, _, e3, e4, hx3, hx4, R7, R13, ?_, h3, h4, h.below⟩
  rintro rfl
  exact hne (by rw [e3, e4])
end
theorem reflector_any (A : Option Addr) (c : Nat) (x : Int) (g : List Int) (w : World) (hC : Kd.C (Kd.int .i64) w A (x :: g).length (x :: g)) (hc : (x :: g).length ≤ c) (hl : g.length ≤ 1000) :
    Calls Tryz.prog 134 #[.slice A (g.length + 1) c] w fun e w' => ∃ bu bv, e = .returned (.func (.func 172) #[] #[.pointer (some ⟨bv, 0, none⟩), .pointer (some ⟨bu, 0, none⟩)]) ∧ Refl w' w.heap.size bu bv g ((x :: g).take g.length) ∧ w.heap.size ≤ bu ∧ w.heap.size ≤ bv ∧ Below w.heap.size w w' := by
  have h1 : ∃ AD : Option Addr, (if c = 1 then A else A.map (·.add 1)) = AD := ⟨_, rfl⟩
  obtain ⟨AD, hAD⟩ := h1
  have hg : Kd.C (Kd.int .i64) w AD g.length g := by
    have := Kd.C_drop (m := 1) hC (by simp) hc
    simpa [hAD, Kd.int, Kd.scalar] using this
  have ht : Kd.C (Kd.int .i64) w A ((x :: g).take g.length).length ((x :: g).take g.length) := Kd.C_take hC (by simp)
  have htl : ((x :: g).take g.length).length = g.length := by simp
  have c1 : ∀ W, Below w.heap.size w W → Calls Tryz.prog 171 #[.slice AD g.length (c - 1)] W fun e w' => ∃ v, e = .returned v ∧ Kd.R (Kd.int .i64) 3 w' W.heap.size (fun _ => True) v g ∧ Below W.heap.size W w' :=
    fun W hb => slices_Clone_int_int.calls AD (c - 1) g g W (Kd.C_below hg hb) (by simp at hc; omega) (by simp [slices_Clone_int_int.f]; omega)
  have c2 : ∀ W, Below w.heap.size w W → Calls Tryz.prog 171 #[.slice A g.length c] W fun e w' => ∃ v, e = .returned v ∧ Kd.R (Kd.int .i64) 3 w' W.heap.size (fun _ => True) v ((x :: g).take g.length) ∧ Below W.heap.size W w' := by
    intro W hb
    have := slices_Clone_int_int.calls A c ((x :: g).take g.length) ((x :: g).take g.length) W (Kd.C_below ht hb) (by simp at hc; omega) (by simp [slices_Clone_int_int.f]; omega)
    rwa [htl] at this
  obtain ⟨ad, e, _⟩ := Kd.at_int hC 0 (by omega) (by simp)
  cases e
  have hsl := cut_from_any ad c g.length AD hAD
  have C2 := Aside0.mk c2
  have i1 : (1 : Int) ≤ (g.length : Int) + 1 := by omega
  have i2 : ¬ ((g.length : Int) + 1 < 1) := by omega
  have i3 : (0 : Int) ≤ (g.length : Int) := by omega
  simp only [List.length_cons] at hc
  have i4 : (g.length : Int) + 1 ≤ (c : Int) := by omega
  have i5 : (g.length : Int) ≤ (c : Int) := by omega
  have B0 := Aside0.mk (Below.refl w.heap.size w)
  clear hC hg ht c2
  have w1' : IntKind.i64.wrap ((g.length : Int) + 1 - 1) = (g.length : Int) := by rw [IntWalk.i64_in _ (by omega)]; omega
  have w2' : IntKind.i64.wrap (g.length : Int) = (g.length : Int) := IntWalk.i64_in _ (by omega)
  have C1 := Aside0.mk c1
  clear c1 hAD
  go_enter Tryz.func134, Tryz.ntmps134
  go_upto_region 1 with fail
  go_cut [3, 4] (fun s3 s4 wx => ∃ bu bv U V, s3 = .pointer (some ⟨bu, 0, none⟩) ∧ s4 = .pointer (some ⟨bv, 0, none⟩) ∧ Aside0 (Two w wx bu bv U V g ((x :: g).take g.length)))
  case first =>
    refine wp_region_any (by kernel_rfl) ?_
    change wpAny _ _ _ _ _ _ _ (World.drew _)
    refine wpAny_take (i := 0) (v := ?_) rfl (by kernel_rfl) (by kernel_rfl) (by kernel_rfl) (fun _ _ _ h => h) (Or.inl ⟨by rfl, ?_⟩) ?_
    rotate_left
    · (intro W; go_simp; try with_reducible rfl)
    refine wpAny_take (i := 1) (v := ?_) rfl (by kernel_rfl) (by kernel_rfl) (by kernel_rfl) (fun _ _ _ h => h) (Or.inl ⟨by rfl, ?_⟩) ?_
    rotate_left
    · (intro W; go_simp; try with_reducible rfl)
    refine wpAny_take (i := 3) (v := ?_) rfl (by kernel_rfl) (by kernel_rfl) (by kernel_rfl) (fun _ _ _ h => h) (Or.inl ⟨by rfl, ?_⟩) ?_
    rotate_left
    · (intro W; go_simp; try with_reducible rfl)
    refine wpAny_take (i := 4) (v := ?_) rfl (by kernel_rfl) (by kernel_rfl) (by kernel_rfl) (fun _ _ _ h => h) (Or.inl ⟨by rfl, ?_⟩) ?_
    rotate_left
    · (intro W; go_simp; try with_reducible rfl)
    refine wpAny_take (i := 5) (v := ?_) rfl (by kernel_rfl) (by kernel_rfl) (by kernel_rfl) (fun _ _ _ h => h) (Or.inl ⟨by rfl, ?_⟩) ?_
    rotate_left
    · (intro W; go_simp; try with_reducible rfl)
    refine wpAny_take (i := 6) (v := ?_) rfl (by kernel_rfl) (by kernel_rfl) (by kernel_rfl) (fun _ _ _ h => h) (Or.inl ⟨by rfl, ?_⟩) ?_
    rotate_left
    · (intro W; go_simp; try with_reducible rfl)
    refine wpAny_take (i := 7) (v := ?_) rfl (by kernel_rfl) (by kernel_rfl) (by kernel_rfl) (fun _ _ _ h => h) (Or.inl ⟨by rfl, ?_⟩) ?_
    rotate_left
    · (intro W; go_simp; try with_reducible rfl)
    refine wpAny_of_inv (fun L a w' => Quiet L ∧ ∃ p3 p4 v7 v13 : Value, a = { tmps := #[.slice (some ad) (g.length + 1) c, undef, .nilFunc, p3, p4, .slice (some ad) (g.length + 1) c, .slice AD g.length (c - 1), v7, .slice (some ad) (g.length + 1) c, .slice (some ad) (g.length + 1) c, .int .i64 ((g.length : Int) + 1), .int .i64 (g.length : Int), .slice (some ad) g.length c, v13, undef], defers := [] } ∧ RI w g.length g ((x :: g).take g.length) (fun k => L.getD k false) p3 p4 v7 v13 w') (dagB_spec (by kernel_rfl)) ?hstep ?hend _ _ _ _ (by kernel_rfl) (Nat.le_of_ble_eq_true (by kernel_rfl)) ?hinit
    case hinit =>
      refine ⟨⟨by kernel_rfl, by kernel_rfl, by kernel_rfl, by kernel_rfl, by kernel_rfl, by kernel_rfl, by kernel_rfl⟩, undef, undef, undef, undef, rfl, ?_⟩
      exact RI.init (by kernel_rfl) (by kernel_rfl) (by kernel_rfl) (by kernel_rfl) (by kernel_rfl) (by kernel_rfl)
    case hend =>
      rintro L a W hs hall ⟨_, p3, p4, v7, v13, rfl, hRI⟩
      obtain ⟨bu, bv, U, V, rfl, rfl, hT⟩ := hRI.ends (fun k hk => getD_in (by rw [hs]; exact hk) (hall k hk))
      go_wp2_with fail
      go_meet
      exact ⟨bu, bv, U, V, rfl, rfl, ⟨hT⟩⟩
    case hstep =>
      rintro i o L a W ho hs hf he ⟨hQ, p3, p4, v7, v13, rfl, hRI⟩
      have hi : i < 13 := (Array.getElem?_eq_some_iff.1 ho).1
      have hfl := getD_no hf
      rcases hQ.other hi hf with rfl | rfl | rfl | rfl | rfl | rfl
      · obtain rfl := Option.some.inj ho
        have hb := hRI.below
        refine wpOp_step rfl (fun K hK => ?_)
        go_simp
        refine (C1.out _ hb).mono ?_
        rintro e w1 ⟨v1, rfl, ho1, hb1⟩
        obtain ⟨A1, k1, hv1, _, _⟩ := Kd.R_reads ho1
        have ho2 : Kd.R (Kd.int .i64) 3 w1 w.heap.size (fun _ => True) v1 _ := Kd.R_lower ho1 (below_size hb)
        cases hv1
        go_simp
        refine hK _ _ ⟨hQ.set 2, _, _, _, _, rfl, ?_⟩
        rw [upd_listed (by rw [hs]; decide)]
        exact hRI.call1 hfl hb1 _ ⟨A1, k1, rfl, ho2⟩
      · obtain rfl := Option.some.inj ho
        have hb := hRI.below
        refine wpOp_step rfl (fun K hK => ?_)
        go_simp
        refine (C2.out _ hb).mono ?_
        rintro e w1 ⟨v1, rfl, ho1, hb1⟩
        obtain ⟨A1, k1, hv1, _, _⟩ := Kd.R_reads ho1
        have ho2 : Kd.R (Kd.int .i64) 3 w1 w.heap.size (fun _ => True) v1 _ := Kd.R_lower ho1 (below_size hb)
        rw [htl] at hv1
        cases hv1
        go_simp
        refine hK _ _ ⟨hQ.set 8, _, _, _, _, rfl, ?_⟩
        rw [upd_listed (by rw [hs]; decide)]
        exact hRI.call2 hfl hb1 _ ⟨A1, k1, rfl, ho2⟩
      · obtain rfl := Option.some.inj ho
        refine wpOp_step rfl (fun K hK => ?_)
        go_simp
        refine hK _ _ ⟨hQ.set 9, _, _, _, _, rfl, ?_⟩
        rw [upd_listed (by rw [hs]; decide)]
        exact hRI.box1 hfl
      · obtain rfl := Option.some.inj ho
        refine wpOp_step rfl (fun K hK => ?_)
        go_simp
        refine hK _ _ ⟨hQ.set 10, _, _, _, _, rfl, ?_⟩
        rw [upd_listed (by rw [hs]; decide)]
        exact hRI.box2 hfl
      · obtain rfl := Option.some.inj ho
        have h9 : L.getD 9 false = true := he ⟨9, .data⟩ (by simp) (by rfl)
        have h2 : L.getD 2 false = true := he ⟨2, .data⟩ (by simp) (by rfl)
        obtain ⟨b, x, rfl, hb0, hx, _, hx1⟩ := hRI.b3 h9
        obtain ⟨A7, k7, rfl, R7⟩ := hRI.r7 h2
        have q1 := cell_of_one hx
        have q2 := free_of_one hx
        refine wpOp_step rfl (fun K hK => ?_)
        go_simp
        refine hK _ _ ⟨hQ.set 11, _, _, _, _, rfl, ?_⟩
        rw [upd_listed (by rw [hs]; decide)]
        exact hRI.store1 h9 h2 hb0 hx rfl
      · obtain rfl := Option.some.inj ho
        have h9 : L.getD 10 false = true := he ⟨10, .data⟩ (by simp) (by rfl)
        have h2 : L.getD 8 false = true := he ⟨8, .data⟩ (by simp) (by rfl)
        obtain ⟨b, x, rfl, hb0, hx, _, hx1⟩ := hRI.b4 h9
        obtain ⟨A7, k7, rfl, R7⟩ := hRI.r13 h2
        have q1 := cell_of_one hx
        have q2 := free_of_one hx
        refine wpOp_step rfl (fun K hK => ?_)
        go_simp
        refine hK _ _ ⟨hQ.set 12, _, _, _, _, rfl, ?_⟩
        rw [upd_listed (by rw [hs]; decide)]
        exact hRI.store2 h9 h2 hb0 hx rfl
  case rest =>
    obtain ⟨bu, bv, U, V, rfl, rfl, HT⟩ := hcut
    go_wp2
    go_ret
    exact ⟨bu, bv, rfl, ⟨U, V, HT.out.1, HT.out.2.1, HT.out.2.2.1, HT.out.2.2.2.1, HT.out.2.2.2.2.1⟩, HT.out.2.2.2.2.2.1, HT.out.2.2.2.2.2.2.1, HT.out.2.2.2.2.2.2.2⟩
end Go.Proofs.YtjcijaojcgampaaGreatDoor.P.Lin
end
