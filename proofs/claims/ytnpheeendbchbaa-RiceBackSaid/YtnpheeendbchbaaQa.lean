/- Lists of ints in memory: rows of one's own, as they are read; shawmref02.Ints. Rice codes in plain numbers: words, costs, parameters, parts and orders (plain law); the printed functions have these values. -/
import Derived.Test.YtnpheeendbchbaaBn
import Derived.Test.YtnpheeendbchbaaPa
import Derived.Test.YtnpheeendbchbaaPc
import Derived.Test.YtnpheeendbchbaaBa
section
namespace Go.Proofs.Ytnpheeendbchbaa.P
open Go.RowKit Go.Shelf Go.Proofs.Ytnpheeendbchbaa.Bits Go.Proofs.YtnpheeendbchbaaW.PrintWords Go.Proofs.YtnpheeendbchbaaW.PrintLast Go.Proofs.YtnpheeendbchbaaW.PrintMore
set_option linter.unusedVariables false
set_option linter.unusedSimpArgs false
attribute [local go_sem ↓] Go.wp_at_zero Go.wp_at_succ

theorem iinfo : (Try.prog.info? 3).map (fun i => (i.zero, i.size, i.bytes)) = some (some (.int .i64 0), 1, 8) := by kernel_rfl
def flatI (l : List Int) : List Value := l.map fun x => .int .i64 x
/-- A row of one's own, in memory made from base on, as values. -/
abbrev RowV (w : World) (base : Nat) (e : TypeId) (sz : Nat) (v : Value) (n : Nat) (fl : List Value) : Prop := w.ownsRow base e sz v n fl
theorem RowV.fr {w w' : World} {base : Nat} {e : TypeId} {sz : Nat} {v : Value} {n : Nat} {fl : List Value} {T : Nat → Prop} (h : RowV w base e sz v n fl) (hf : Fr T w w') (hT : ∀ k cs, T k → k < w.heap.size → w.heap[k]? ≠ some (.cells cs e (0, 0))) : RowV w' base e sz v n fl := by
  refine ⟨h.1, ?_⟩
  rcases h.2 with hn | ⟨g, cap, cur, rfl, hb, hg, rest⟩
  · exact .inl hn
  · exact .inr ⟨g, cap, cur, rfl, hb, blk_fr hg hf (fun ht => hT g cur ht (lt_of_block hg) hg), rest⟩
theorem RowV.below {w w' : World} {base : Nat} {e : TypeId} {sz : Nat} {v : Value} {n : Nat} {fl : List Value} (h : RowV w base e sz v n fl) (hb : Below w.heap.size w w') : RowV w' base e sz v n fl :=
  h.fr (Fr.below hb (fun _ => False)) (fun _ _ hk => hk.elim)
theorem RowV.block {w : World} {base : Nat} {e : TypeId} {sz : Nat} {v : Value} {n : Nat} {fl : List Value} (h : RowV w base e sz v n fl) (j : Nat) (hj : v.ownBlock = some j) : (∃ cs, w.heap[j]? = some (.cells cs e (0, 0))) ∧ base ≤ j := by
  rcases h.2 with ⟨rfl, hn⟩ | ⟨g, cap, cur, rfl, hb, hg, rest⟩
  · simp [Value.ownBlock] at hj
  · simp [Value.ownBlock] at hj
    subst hj
    exact ⟨⟨cur, hg⟩, hb⟩
theorem RowV.slice {w : World} {base : Nat} {e : TypeId} {sz : Nat} {v : Value} {n : Nat} {fl : List Value} (h : RowV w base e sz v n fl) : ∃ A c, v = .slice A n c := by
  rcases h.2 with ⟨rfl, hn⟩ | ⟨g, cap, cur, rfl, hb, hg, rest⟩
  · have h0 : n = 0 := hn
    subst h0
    exact ⟨none, 0, rfl⟩
  · exact ⟨_, _, rfl⟩
theorem RowV.own {β : Type} (B base : Nat) (e : TypeId) (sz : Nat) (v : Value) (n : Nat) (fl : List Value) : OwnFrom B (fun (_ : β) W => RowV W base e sz v n fl) := fun s X Y row hs hg hr =>
  RowV.fr hs (T := fun k => row = some k) ((Fr.refl _ _).grown hg (fun k _ e => e)) (fun k cs hk hl he => by
    obtain ⟨_, o, ho, hc⟩ := hr k hk
    rw [he] at ho
    cases ho
    cases hc)
theorem rowI_append (W : World) (base : Nat) (v : Value) (l : List Int) (x : Int) (g : Nat) (h : RowV W base 3 1 v l.length (flatI l)) (hg : W.heap[g]? = some (.cells #[.int .i64 x] 3 (0, 0))) (hl : l.length ≤ 1000000001) (hb : base ≤ W.heap.size) :
    ∃ v1 w1, (Builtin.append_ #[40, 40] 40 #[v, .slice (some ⟨g, 0, none⟩) 1 1]).run Try.prog W = .ok v1 w1 ∧ RowV w1 base 3 1 v1 (l ++ [x]).length (flatI (l ++ [x])) ∧ W.grownBy w1 v.ownBlock := by
  obtain ⟨i0, hi, hzz⟩ := Option.map_eq_some_iff.1 iinfo
  simp only [Prod.mk.injEq] at hzz
  obtain ⟨hz0, hz1, hz2⟩ := hzz
  obtain ⟨v1, w1, hr, h2, h3, _, _⟩ := run_append_own_at (P := Try.prog) W base 40 40 3 i0 _ 1 8 Try.underlying40 hi hz0 hz1 hz2 rfl (by omega) v l.length (flatI l) h ⟨g, 0, none⟩ 1 1 [.int .i64 x] (by simp)
    (fun j u hu => by
      rw [show (⟨g, 0, none⟩ : Addr).add j = ⟨g, j, none⟩ by simp [Addr.add_lit], cell_of_row W g j #[.int .i64 x] _ (0, 0) hg]
      simpa using hu)
    (by intro u hu; simp at hu; subst hu; rfl) (by simp only [maxLen]; omega) (by omega) hb
  refine ⟨v1, w1, hr, ?_, h3⟩
  have e : flatI (l ++ [x]) = flatI l ++ [.int .i64 x] := by simp [flatI]
  rw [e, List.length_append]
  exact h2
theorem at64 {w : World} {A : Option Addr} {n : Nat} {B : List Int} (h : Kd.C (Kd.int .i64) w A n B) (i : Nat) (hi : i < n) : ∃ ad, A = some ad ∧ w.cell? (ad.add i) = some (.int .i64 (B.getD i 0)) := by
  obtain ⟨ad, e, hx⟩ := Kd.at_int h (i : Int) (by omega) (by omega)
  refine ⟨ad, e, ?_⟩
  rw [Int.toNat_natCast] at hx
  rw [hx]; unfold rd; rw [Int.toNat_natCast]
theorem C_len64 {w : World} {A : Option Addr} {n : Nat} {B : List Int} (h : Kd.C (Kd.int .i64) w A n B) : B.length = n := h.1
/-- A row of one's own, as a list that is read. -/
theorem RowV.reads {w : World} {base : Nat} {v : Value} {l : List Int} (h : RowV w base 3 1 v l.length (flatI l)) (hl : l.length ≤ 9223372036854775807) : ∃ A c, v = .slice A l.length c ∧ l.length ≤ c ∧ Kd.C (Kd.int .i64) w A l.length l := by
  rcases h.2 with ⟨rfl, hn⟩ | ⟨g, cap, cur, rfl, hb, hg, hle, hcap, hsz, htk⟩
  · have : l = [] := List.length_eq_zero_iff.1 hn
    subst this
    exact ⟨none, 0, rfl, Nat.le_refl _, Kd.C_of_reads (enc := Value.int .i64) (d := (0 : Int)) (h1 := fun _ => rfl) ⟨rfl, hl, fun hn => absurd hn (by simp)⟩⟩
  · refine ⟨_, cap, rfl, hle, Kd.C_of_reads (enc := Value.int .i64) (d := (0 : Int)) (h1 := fun _ => rfl) ⟨rfl, hl, fun hn => ⟨_, rfl, fun j hj => ?_⟩⟩⟩
    have e : (⟨g, 0, none⟩ : Addr).add j = ⟨g, j, none⟩ := by unfold Addr.add; split <;> simp_all
    rw [e, cell_of_row w g j cur _ (0, 0) hg]
    have h1 : (cur.toList.take (l.length * 1))[j]? = (flatI l)[j]? := by rw [htk]
    rw [List.getElem?_take, if_pos (by omega), Array.getElem?_toList] at h1
    rw [h1]
    simp [flatI, hj]

theorem lit_C64 (X : World) (xs : List Int) (hm : xs.length ≤ 9223372036854775807) : Kd.C (Kd.int .i64) (X.alloc (.cells (nums .i64 xs).toArray 3)) (some ⟨X.heap.size, 0, none⟩) xs.length xs := by
  obtain ⟨A, c, e, _, hC⟩ := Kd.R_reads (Kd.R_of_own (ok := fun _ => True) (own_lit_of (enc := fun x => Value.int .i64 x) X X.heap.size 3 xs (Nat.le_refl _) hm) (fun _ _ => trivial))
  cases e
  exact hC

set_option maxHeartbeats 1000000 in
set_option maxRecDepth 100000 in
theorem Ints_any (A A' : Option Addr) (n n' c c' : Nat) (B B' : List Int) (w : World) (hC : Kd.C (Kd.int .i64) w A n B) (hC' : Kd.C (Kd.int .i64) w A' n' B') (hn : n ≤ 1000000000) (hn' : n' ≤ 1000000000) :
    Calls Try.prog 46 #[.slice A n c, .slice A' n' c'] w fun e w' => e = .returned (.bool (decide (B = B'))) ∧ Drawn0 w w' := by
  have hl := C_len64 hC
  have hl' := C_len64 hC'
  have HC := Aside0.mk hC
  have HC' := Aside0.mk hC'
  clear hC hC'
  by_cases hnn : n = n'
  · subst hnn
    have HL := Aside0.mk hl
    have HL' := Aside0.mk hl'
    clear hl hl'
    go_enter Try.func46, Try.ntmps46
    go_wp2_with fail
    go_loopw [13] (fun i wr => ∃ k : Nat, i = .int .i64 (k : Int) ∧ k ≤ n ∧ Aside0 (∀ j, j < k → B.getD j 0 = B'.getD j 0) ∧ Aside0 (Drawn0 w wr)) (fun i _ => n - (intOf i).toNat)
    case atStart => exact ⟨0, rfl, Nat.zero_le _, ⟨fun j hj => by omega⟩, ⟨Drawn0.refl _⟩⟩
    case round =>
      obtain ⟨k, rfl, hk, HE, HD⟩ := hrel
      by_cases hlt : k < n
      · have hCr := Kd.C_below HC.out HD.out.below
        have hCr' := Kd.C_below HC'.out HD.out.below
        obtain ⟨ad, e, hx⟩ := at64 hCr k hlt
        obtain ⟨ad', e', hx'⟩ := at64 hCr' k hlt
        subst e
        subst e'
        have HX := Aside0.mk (rfl : B.getD k 0 = B.getD k 0)
        obtain ⟨x, hX⟩ : ∃ x, x = B.getD k 0 := ⟨_, rfl⟩
        obtain ⟨y, hY⟩ : ∃ y, y = B'.getD k 0 := ⟨_, rfl⟩
        rw [← hX] at hx
        rw [← hY] at hx'
        have HX := Aside0.mk hX
        have HY := Aside0.mk hY
        clear hX hY hCr hCr'
        by_cases hxy : x = y
        · have q1 : (x != y) = false := by simp [hxy]
          have HXY := Aside0.mk hxy
          clear hxy
          go_wp2_with fail
          go_quiet (fail)
          go_wp2_with fail
          go_roundw
          case rel => exact ⟨k + 1, by go_num, by omega, ⟨fun j hj => by
            by_cases h : j = k
            · subst h; rw [← HX.out, ← HY.out]; exact HXY.out
            · exact HE.out j (by omega)⟩, ⟨HD.out.step _⟩⟩
          case measure => simp [intOf]; omega
        · have q1 : (x != y) = true := by simp [hxy]
          have HN : Aside0 (decide (B = B') = false) := ⟨by
            apply decide_eq_false
            rintro rfl
            exact hxy (HX.out.trans HY.out.symm)⟩
          clear hxy
          go_wp2_with fail
          go_quiet (fail)
          go_wp2_with fail
          go_ret
          rw [HN.out]
          exact ⟨rfl, HD.out.step _⟩
      · have HN : Aside0 (decide (B = B') = true) := ⟨decide_eq_true (C_ext HL.out HL'.out (fun i hi => HE.out i (by omega)))⟩
        go_wp2_with fail
        go_ret
        rw [HN.out]
        exact ⟨rfl, HD.out⟩
  · have HN : Aside0 (decide (B = B') = false) := ⟨by
      apply decide_eq_false
      rintro rfl
      omega⟩
    have q1 : ((n : Int) != (n' : Int)) = true := by simp; omega
    clear hl hl'
    go_enter Try.func46, Try.ntmps46
    go_wp2_with fail
    go_ret
    rw [HN.out]
    exact ⟨rfl, Drawn0.refl _⟩
end Go.Proofs.Ytnpheeendbchbaa.P
end
section
namespace Go.Proofs.Ytnpheeendbchbaa.P
open Go.RowKit Go.Proofs.Ytnpheeendbchbaa.Bits Go.Proofs.YtnpheeendbchbaaW.PrintWords Go.Proofs.YtnpheeendbchbaaW.PrintLast Go.Proofs.YtnpheeendbchbaaW.PrintMore
set_option linter.unusedVariables false
set_option linter.unusedSimpArgs false

def foldI (v : Int) : Int := if v < 0 then -2 * v - 1 else 2 * v
def unfoldI (u : Int) : Int := if u % 2 = 1 then -((u + 1) / 2) else u / 2
def small (v : Int) : Bool := decide (-2147483648 ≤ v) && decide (v ≤ 2147483647)
def smallL (l : List Int) : Prop := ∀ v ∈ l, -2147483648 ≤ v ∧ v ≤ 2147483647
def lenW (v : Int) (k : Nat) : Int := if foldI v / 2 ^ k < 24 then foldI v / 2 ^ k + 1 + k else 57
def sumW (l : List Int) (k : Nat) : Int := (l.map fun v => lenW v k).sum
def chk (l : List Int) : Int := if 8192 < l.length then 2 else if l.all small then 0 else 6
/-- st, from k on, n times. -/
def iter {S : Type} (st : S → Nat → S) : Nat → Nat → S → S
  | 0, _, s => s
  | n + 1, k, s => iter st n (k + 1) (st s k)
def bstep (f : Nat → Int) (s : Int × Int) (k : Nat) : Int × Int := if f k < s.2 then ((k : Int), f k) else s
def bestW (l : List Int) : Int × Int := iter (bstep (sumW l)) 14 1 (0, sumW l 0)
def partN (l : List Int) (p : Nat) : Nat := l.length / 2 ^ p
def partL (l : List Int) (p i : Nat) : List Int := (l.take (i * partN l p + partN l p)).drop (i * partN l p)
def partsL (l : List Int) (p : Nat) : List (List Int) := (List.range' 0 (2 ^ p)).map (partL l p)
def costP (x : List Int) : Int := 4 + (bestW x).2
def wholeW (l : List Int) (p : Nat) : Int := 2 + ((partsL l p).map costP).sum
def divB (n p : Nat) : Bool := decide (n % 2 ^ p = 0) && (decide (0 < n) || decide (p = 0))
def ostep (l : List Int) (s : Int × Int) (p : Nat) : Int × Int := if divB l.length p then bstep (wholeW l) s p else s
def orderW (l : List Int) : Int × Int := iter (ostep l) 3 1 (0, wholeW l 0)

theorem small_iff (v : Int) : small v = true ↔ -2147483648 ≤ v ∧ v ≤ 2147483647 := by simp [small]
theorem all_small (l : List Int) : l.all small = true ↔ smallL l := by
  rw [List.all_eq_true]
  exact ⟨fun h v hv => (small_iff v).1 (h v hv), fun h v hv => (small_iff v).2 (h v hv)⟩
theorem foldI_bound {v : Int} (h : -2147483648 ≤ v ∧ v ≤ 2147483647) : 0 ≤ foldI v ∧ foldI v ≤ 4294967295 := by unfold foldI; split <;> omega
theorem q_bound {v : Int} (h : -2147483648 ≤ v ∧ v ≤ 2147483647) (k : Nat) : 0 ≤ foldI v / 2 ^ k ∧ foldI v / 2 ^ k ≤ 4294967295 := by
  have hb := foldI_bound h
  exact ⟨Int.ediv_nonneg hb.1 (Int.le_of_lt (Int.pow_pos (by omega))), Int.le_trans (Int.ediv_le_self _ hb.1) hb.2⟩
theorem lenW_bound {v : Int} (h : -2147483648 ≤ v ∧ v ≤ 2147483647) {k : Nat} (hk : k ≤ 14) : 1 ≤ lenW v k ∧ lenW v k ≤ 57 := by
  have hq := q_bound h k
  unfold lenW
  split <;> omega
theorem sumW_cons (v : Int) (l : List Int) (k : Nat) : sumW (v :: l) k = lenW v k + sumW l k := by simp [sumW]
theorem sumW_drop (l : List Int) (k i : Nat) (h : i < l.length) : sumW (l.drop i) k = lenW l[i] k + sumW (l.drop (i + 1)) k := by
  rw [List.drop_eq_getElem_cons h, sumW_cons]
theorem sumW_bound {l : List Int} (h : smallL l) {k : Nat} (hk : k ≤ 14) : 0 ≤ sumW l k ∧ sumW l k ≤ 57 * l.length := by
  induction l with
  | nil => simp [sumW]
  | cons v l ih =>
    have h1 := lenW_bound (h v (by simp)) hk
    have h2 := ih (fun x hx => h x (by simp [hx]))
    rw [sumW_cons, List.length_cons]
    omega
theorem shr_nat (x : Int) (k : Nat) (hk : k ≤ 63) : shr .i64 x (k : Int) = x / 2 ^ k := by
  unfold shr
  rw [Int.toNat_natCast, Nat.min_eq_left (show k ≤ IntKind.i64.bits by show k ≤ 64; omega)]
theorem iter_inv {S : Type} {st : S → Nat → S} (I : S → Prop) : ∀ (n k : Nat) (s : S), (∀ s j, k ≤ j → j < k + n → I s → I (st s j)) → I s → I (iter st n k s)
  | 0, _, _, _, h => h
  | n + 1, k, s, hst, h => iter_inv I n (k + 1) (st s k) (fun s j h1 h2 => hst s j (by omega) (by omega)) (hst s k (by omega) (by omega) h)
theorem bestW_bound {l : List Int} (h : smallL l) : (∃ k : Nat, (bestW l).1 = k ∧ k ≤ 14) ∧ 0 ≤ (bestW l).2 ∧ (bestW l).2 ≤ 57 * l.length := by
  unfold bestW
  refine iter_inv (fun s : Int × Int => (∃ k : Nat, s.1 = k ∧ k ≤ 14) ∧ 0 ≤ s.2 ∧ s.2 ≤ 57 * l.length) 14 1 _ (fun s j h1 h2 hs => ?_) ⟨⟨0, rfl, by omega⟩, sumW_bound h (by omega)⟩
  unfold bstep
  split
  · exact ⟨⟨j, rfl, by omega⟩, sumW_bound h (by omega)⟩
  · exact hs
theorem smallL_take {l : List Int} (h : smallL l) (n : Nat) : smallL (l.take n) := fun v hv => h v (List.mem_of_mem_take hv)
theorem smallL_drop {l : List Int} (h : smallL l) (n : Nat) : smallL (l.drop n) := fun v hv => h v (List.mem_of_mem_drop hv)
theorem partL_small {l : List Int} (h : smallL l) (p i : Nat) : smallL (partL l p i) := smallL_drop (smallL_take h _) _
theorem part_le (l : List Int) (p i : Nat) (hi : i < 2 ^ p) : i * partN l p + partN l p ≤ l.length := by
  have h1 : (i + 1) * partN l p ≤ 2 ^ p * partN l p := Nat.mul_le_mul_right _ hi
  have h2 : 2 ^ p * partN l p ≤ l.length := Nat.mul_div_le _ _
  rw [Nat.succ_mul] at h1
  omega
theorem partL_length (l : List Int) (p i : Nat) (hi : i < 2 ^ p) : (partL l p i).length = partN l p := by
  have := part_le l p i hi
  unfold partL
  rw [List.length_drop, List.length_take]
  omega
theorem partsL_length (l : List Int) (p : Nat) : (partsL l p).length = 2 ^ p := by unfold partsL; rw [List.length_map, List.length_range']
theorem partsL_getElem (l : List Int) (p i : Nat) (h : i < (partsL l p).length) : (partsL l p)[i] = partL l p i := by
  have hi : i < 2 ^ p := by rw [partsL_length] at h; exact h
  have : ((List.range' 0 (2 ^ p)).map (partL l p))[i]? = some (partL l p i) := by
    rw [List.getElem?_map, List.getElem?_range' hi]; simp
  exact Option.some.inj ((List.getElem?_eq_getElem h).symm.trans this)
theorem partN_le (l : List Int) (p : Nat) : partN l p ≤ l.length := Nat.div_le_self _ _
theorem sum_bound {α : Type} (f : α → Int) (m : Int) : ∀ (l : List α), (∀ x ∈ l, 0 ≤ f x ∧ f x ≤ m) → 0 ≤ (l.map f).sum ∧ (l.map f).sum ≤ m * l.length
  | [], _ => by simp
  | x :: l, h => by
    have h1 := h x (by simp)
    have h2 := sum_bound f m l (fun y hy => h y (by simp [hy]))
    rw [List.map_cons, List.sum_cons, List.length_cons, Int.natCast_add, Int.mul_add]
    omega
theorem parts_mem {l x : List Int} {p : Nat} (h : x ∈ partsL l p) : ∃ i, i < 2 ^ p ∧ x = partL l p i := by
  obtain ⟨i, hi, rfl⟩ := List.getElem_of_mem h
  exact ⟨i, by rw [partsL_length] at hi; exact hi, partsL_getElem l p i hi⟩
theorem pow_le8 {p : Nat} (h : p ≤ 3) : 1 ≤ 2 ^ p ∧ 2 ^ p ≤ 8 := by
  rcases (by omega : p = 0 ∨ p = 1 ∨ p = 2 ∨ p = 3) with rfl | rfl | rfl | rfl <;> decide
theorem costP_bound {l x : List Int} {p : Nat} (hs : smallL l) (hl : l.length ≤ 100000) (h : x ∈ partsL l p) : 0 ≤ costP x ∧ costP x ≤ 5700004 := by
  obtain ⟨i, hi, rfl⟩ := parts_mem h
  have hb := (bestW_bound (partL_small hs p i)).2
  have h1 := partL_length l p i hi
  have h2 := partN_le l p
  unfold costP
  omega
theorem wholeW_bound {l : List Int} (hs : smallL l) (hl : l.length ≤ 100000) {p : Nat} (hp : p ≤ 3) : 0 ≤ wholeW l p ∧ wholeW l p ≤ 45600034 := by
  have hb := sum_bound costP 5700004 (partsL l p) (fun x hx => costP_bound hs hl hx)
  have h8 := pow_le8 hp
  rw [partsL_length] at hb
  unfold wholeW
  omega
theorem orderW_bound {l : List Int} (hs : smallL l) (hl : l.length ≤ 100000) : (∃ p : Nat, (orderW l).1 = p ∧ p ≤ 3 ∧ divB l.length p = true ∧ (orderW l).2 = wholeW l p) ∧ 0 ≤ (orderW l).2 ∧ (orderW l).2 ≤ 45600034 := by
  unfold orderW
  refine iter_inv (fun s : Int × Int => (∃ p : Nat, s.1 = p ∧ p ≤ 3 ∧ divB l.length p = true ∧ s.2 = wholeW l p) ∧ 0 ≤ s.2 ∧ s.2 ≤ 45600034) 3 1 _ (fun s j h1 h2 h => ?_) ⟨⟨0, rfl, by omega, by simp [divB, Nat.mod_one], rfl⟩, wholeW_bound hs hl (by omega)⟩
  unfold ostep
  split
  · rename_i hd
    unfold bstep
    split
    · exact ⟨⟨j, rfl, by omega, hd, rfl⟩, wholeW_bound hs hl (by omega)⟩
    · exact h
  · exact h

theorem ref_small (v : Int) : shawmref05_small.f v = some (small v) := by
  unfold shawmref05_small.f small
  by_cases h : -2147483648 ≤ v
  · rw [if_pos h, decide_eq_true h, Bool.true_and]; congr 1; rw [decide_eq_decide]; omega
  · rw [if_neg h, decide_eq_false h, Bool.false_and]
theorem own_small (v : Int) : rice_inRange.f v = some (small v) := by
  unfold rice_inRange.f small
  by_cases h : -2147483648 ≤ v
  · rw [if_pos h, decide_eq_true h, Bool.true_and]
  · rw [if_neg h, decide_eq_false h, Bool.false_and]
theorem ref_folded {v : Int} (h : -2147483648 ≤ v ∧ v ≤ 2147483647) : shawmref05_folded.f v = some (foldI v) := by
  unfold shawmref05_folded.f foldI
  by_cases h0 : v < 0
  · rw [if_neg (by omega), if_pos h0, wrap64_id (x := -2 * v) (by omega) (by omega), wrap64_id (by omega) (by omega)]
  · rw [if_pos (by omega), if_neg h0, wrap64_id (by omega) (by omega)]
theorem own_fold {v : Int} (h : -2147483648 ≤ v ∧ v ≤ 2147483647) : rice_fold.f v = some (foldI v) := by
  unfold rice_fold.f foldI
  by_cases h0 : v < 0
  · rw [if_pos h0, if_pos h0, wrap64_id (x := -2 * v) (by omega) (by omega), wrap64_id (by omega) (by omega)]
  · rw [if_neg h0, if_neg h0, wrap64_id (by omega) (by omega)]
theorem ref_size (v : Int) (k : Nat) (hv : -2147483648 ≤ v ∧ v ≤ 2147483647) (hk : k ≤ 14) : shawmref05_size.f v (k : Int) = some (lenW v k) := by
  have hq := q_bound hv k
  unfold shawmref05_size.f lenW
  rw [ref_folded hv]
  simp only [Option.bind_some]
  rw [if_pos (by omega), shr_nat _ _ (by omega)]
  generalize foldI v / 2 ^ k = q at *
  by_cases h : q < 24
  · rw [if_pos h, if_pos h, wrap64_id (x := q + 1) (by omega) (by omega), wrap64_id (by omega) (by omega)]
  · rw [if_neg h, if_neg h]
theorem own_length (v : Int) (k : Nat) (hv : -2147483648 ≤ v ∧ v ≤ 2147483647) (hk : k ≤ 14) : rice_length.f v (k : Int) = some (lenW v k) := by
  have hq := q_bound hv k
  unfold rice_length.f lenW
  rw [own_fold hv]
  simp only [Option.bind_some]
  rw [if_pos (by omega), shr_nat _ _ (by omega)]
  generalize foldI v / 2 ^ k = q at *
  by_cases h : q < 24
  · rw [if_pos h, if_pos h, wrap64_id (x := q + 1) (by omega) (by omega), wrap64_id (by omega) (by omega)]
  · rw [if_neg h, if_neg h]
theorem shawmref05_cost_l0 (l : List Int) (k : Nat) (hk : k ≤ 14) (hs : smallL l) (hl : l.length ≤ 100000) : ∀ (f i : Nat) (acc : Int), i ≤ l.length → l.length - i < f → 0 ≤ acc → acc ≤ 57 * i → shawmref05_cost.l0 f (k : Int) acc l (l.length : Int) (i : Int) = some (acc + sumW (l.drop i) k)
  | 0, i, acc, _, h, _, _ => by omega
  | f + 1, i, acc, hi, hf, h0, h1 => by
    unfold shawmref05_cost.l0
    by_cases hlt : i < l.length
    · have hx := hs l[i] (List.getElem_mem hlt)
      have hb := lenW_bound hx hk
      have hr : rd l (i : Int) = l[i] := by unfold rd; rw [Int.toNat_natCast, List.getD_eq_getElem?_getD, List.getElem?_eq_getElem hlt]; rfl
      rw [if_pos (by omega), if_pos (by omega), if_pos (by omega), hr, ref_size _ _ hx hk]
      simp only [Option.bind_some]
      rw [wrap64_id (by omega) (by omega), wrap64_id (by omega) (by omega), show (i : Int) + 1 = ((i + 1 : Nat) : Int) by omega]
      rw [shawmref05_cost_l0 l k hk hs hl f (i + 1) _ (by omega) (by omega) (by omega) (by omega), sumW_drop l k i hlt]
      congr 1
      omega
    · obtain rfl : i = l.length := by omega
      rw [if_neg (by omega), List.drop_length]
      congr 1
      simp [sumW]
theorem shawmref05_cost_f (l : List Int) (k f : Nat) (hk : k ≤ 14) (hs : smallL l) (hl : l.length ≤ 100000) (hf : l.length < f) : shawmref05_cost.f f l (k : Int) = some (sumW l k) := by
  unfold shawmref05_cost.f
  have := shawmref05_cost_l0 l k hk hs hl f 0 0 (by omega) (by omega) (by omega) (by omega)
  rw [List.drop_zero, Int.zero_add] at this
  exact this
theorem rice_sum_l0 (l : List Int) (k : Nat) (hk : k ≤ 14) (hs : smallL l) (hl : l.length ≤ 100000) : ∀ (f i : Nat) (acc : Int), i ≤ l.length → l.length - i < f → 0 ≤ acc → acc ≤ 57 * i → rice_sum.l0 f (k : Int) acc l (l.length : Int) (i : Int) = some (acc + sumW (l.drop i) k)
  | 0, i, acc, _, h, _, _ => by omega
  | f + 1, i, acc, hi, hf, h0, h1 => by
    unfold rice_sum.l0
    by_cases hlt : i < l.length
    · have hx := hs l[i] (List.getElem_mem hlt)
      have hb := lenW_bound hx hk
      have hr : rd l (i : Int) = l[i] := by unfold rd; rw [Int.toNat_natCast, List.getD_eq_getElem?_getD, List.getElem?_eq_getElem hlt]; rfl
      rw [if_pos (by omega), if_pos (by omega), if_pos (by omega), hr, own_length _ _ hx hk]
      simp only [Option.bind_some]
      rw [wrap64_id (by omega) (by omega), wrap64_id (by omega) (by omega), show (i : Int) + 1 = ((i + 1 : Nat) : Int) by omega]
      rw [rice_sum_l0 l k hk hs hl f (i + 1) _ (by omega) (by omega) (by omega) (by omega), sumW_drop l k i hlt]
      congr 1
      omega
    · obtain rfl : i = l.length := by omega
      rw [if_neg (by omega), List.drop_length]
      congr 1
      simp [sumW]
theorem rice_sum_f (l : List Int) (k f : Nat) (hk : k ≤ 14) (hs : smallL l) (hl : l.length ≤ 100000) (hf : l.length < f) : rice_sum.f f l (k : Int) = some (sumW l k) := by
  unfold rice_sum.f
  have := rice_sum_l0 l k hk hs hl f 0 0 (by omega) (by omega) (by omega) (by omega)
  rw [List.drop_zero, Int.zero_add] at this
  exact this

theorem ref_best_l0 (l : List Int) (hs : smallL l) (hl : l.length ≤ 100000) : ∀ (n k f : Nat) (s : Int × Int), k + n = 15 → n + l.length + 1 < f → shawmref05_best.l0 f l s.1 s.2 (k : Int) = some (iter (bstep (sumW l)) n k s)
  | n, k, 0, s, _, h => by omega
  | 0, k, f + 1, s, hk, hf => by
    unfold shawmref05_best.l0
    rw [if_neg (by omega)]
    rfl
  | n + 1, k, f + 1, s, hk, hf => by
    unfold shawmref05_best.l0
    rw [if_pos (by omega), shawmref05_cost_f l k f (by omega) hs hl (by omega)]
    simp only [Option.bind_some]
    rw [wrap64_id (by omega) (by omega), show (k : Int) + 1 = ((k + 1 : Nat) : Int) by omega]
    have ih := ref_best_l0 l hs hl n (k + 1) f (bstep (sumW l) s k) (by omega) (by omega)
    unfold iter
    unfold bstep at ih ⊢
    by_cases h : sumW l k < s.2
    · rw [if_pos h]; rw [if_pos h] at ih ⊢; exact ih
    · rw [if_neg h]; rw [if_neg h] at ih ⊢; exact ih
theorem ref_best (l : List Int) (f : Nat) (hs : smallL l) (hl : l.length ≤ 100000) (hf : l.length + 15 < f) : shawmref05_best.f f l = some (bestW l) := by
  have h0 := shawmref05_cost_f l 0 f (by omega) hs hl (by omega)
  unfold shawmref05_best.f bestW
  rw [show (0 : Int) = ((0 : Nat) : Int) from rfl, h0]
  simp only [Option.bind_some]
  exact ref_best_l0 l hs hl 14 1 f (0, sumW l 0) (by omega) (by omega)
theorem ref_parts_l0 (l : List Int) (p : Nat) (hl : l.length ≤ 100000) (hp : p ≤ 3) : ∀ (n i f : Nat) (acc : List (List Int)), i + n = 2 ^ p → n < f → acc.length ≤ i → shawmref05_parts.l0 f l (partN l p : Int) acc ((2 ^ p : Nat) : Int) (i : Int) = some (acc ++ (List.range' i n).map (partL l p))
  | n, i, 0, acc, _, h, _ => by omega
  | 0, i, f + 1, acc, hi, hf, ha => by
    unfold shawmref05_parts.l0
    rw [if_neg (by omega)]
    simp
  | n + 1, i, f + 1, acc, hi, hf, ha => by
    have h8 := pow_le8 hp
    have hle := part_le l p i (by omega)
    have hm : (i : Int) * (partN l p : Int) = ((i * partN l p : Nat) : Int) := (Int.natCast_mul _ _).symm
    have hpl : partL l p i = (l.take (i * partN l p + partN l p)).drop (i * partN l p) := rfl
    unfold shawmref05_parts.l0
    rw [hm]
    clear hm
    generalize i * partN l p = a at *
    generalize hN : partN l p = b at *
    rw [if_pos (by omega), wrap64_id (x := (a : Int)) (by omega) (by omega), wrap64_id (x := (a : Int) + (b : Int)) (by omega) (by omega)]
    rw [if_pos (by omega)]
    rw [if_pos (by omega)]
    rw [if_pos (by omega)]
    rw [if_pos (by omega), wrap64_id (by omega) (by omega)]
    rw [show (i : Int) + 1 = ((i + 1 : Nat) : Int) by omega, show ((a : Int) + (b : Int)).toNat = a + b by omega, Int.toNat_natCast, ← hpl]
    have ih := ref_parts_l0 l p hl hp n (i + 1) f (acc ++ [partL l p i]) (by omega) (by omega) (by simp; omega)
    rw [hN] at ih
    rw [ih, List.range'_succ, List.map_cons, List.append_assoc]
    rfl
theorem shl_nat {p : Nat} (hp : p ≤ 3) : shl .i64 1 (p : Int) = ((2 ^ p : Nat) : Int) := by
  rcases (by omega : p = 0 ∨ p = 1 ∨ p = 2 ∨ p = 3) with rfl | rfl | rfl | rfl <;> decide
theorem ref_parts (l : List Int) (p f : Nat) (hl : l.length ≤ 100000) (hp : p ≤ 3) (hf : 8 < f) : shawmref05_parts.f f l (p : Int) = some (partsL l p) := by
  have h8 := pow_le8 hp
  have hn : shr .i64 (l.length : Int) (p : Int) = (partN l p : Int) := by rw [shr_nat _ _ (by omega)]; unfold partN; push_cast; rfl
  unfold shawmref05_parts.f
  rw [if_pos (by omega), hn, shl_nat hp]
  have := ref_parts_l0 l p hl hp (2 ^ p) 0 f [] (by omega) (by omega) (by simp)
  rw [List.nil_append] at this
  exact this
theorem ref_whole_l0 (P : List (List Int)) (hP : ∀ x ∈ P, smallL x ∧ x.length ≤ 100000) (hl : P.length ≤ 8) : ∀ (f i : Nat) (acc : Int), i ≤ P.length → P.length - i + 100020 < f → 0 ≤ acc → acc ≤ 2 + 5700004 * i → shawmref05_whole.l0 f acc P (P.length : Int) (i : Int) = some (acc + ((P.drop i).map costP).sum)
  | 0, i, acc, _, h, _, _ => by omega
  | f + 1, i, acc, hi, hf, h0, h1 => by
    unfold shawmref05_whole.l0
    by_cases hlt : i < P.length
    · have hx := hP P[i] (List.getElem_mem hlt)
      have hb := (bestW_bound hx.1).2
      have hr : rd_L3 P (i : Int) = P[i] := by unfold rd_L3; rw [Int.toNat_natCast, List.getD_eq_getElem?_getD, List.getElem?_eq_getElem hlt]; rfl
      have hc : costP P[i] = 4 + (bestW P[i]).2 := rfl
      rw [if_pos (by omega), if_pos (by omega), if_pos (by omega), hr, ref_best _ _ hx.1 hx.2 (by omega)]
      simp only [Option.bind_some]
      rw [wrap64_id (x := 4 + (bestW P[i]).2) (by omega) (by omega), ← hc, wrap64_id (x := acc + costP P[i]) (by omega) (by omega), wrap64_id (by omega) (by omega), show (i : Int) + 1 = ((i + 1 : Nat) : Int) by omega]
      rw [ref_whole_l0 P hP hl f (i + 1) _ (by omega) (by omega) (by omega) (by omega), List.drop_eq_getElem_cons hlt, List.map_cons, List.sum_cons]
      congr 1
      omega
    · obtain rfl : i = P.length := by omega
      rw [if_neg (by omega), List.drop_length]
      simp
theorem ref_whole (l : List Int) (p f : Nat) (hs : smallL l) (hl : l.length ≤ 100000) (hp : p ≤ 3) (hf : 100040 < f) : shawmref05_whole.f f l (p : Int) = some (wholeW l p) := by
  have h8 := pow_le8 hp
  unfold shawmref05_whole.f
  rw [ref_parts l p f hl hp (by omega)]
  simp only [Option.bind_some]
  have := ref_whole_l0 (partsL l p) (fun x hx => by
    obtain ⟨i, hi, rfl⟩ := parts_mem hx
    exact ⟨partL_small hs p i, by have := partL_length l p i hi; have := partN_le l p; omega⟩) (by rw [partsL_length]; omega) f 0 2 (by omega) (by rw [partsL_length]; omega) (by omega) (by omega)
  rw [List.drop_zero] at this
  exact this
theorem ref_divided (n p : Nat) (hp : p ≤ 3) : shawmref05_divided.f (n : Int) (p : Int) = some (divB n p) := by
  have h8 := pow_le8 hp
  have ht : Int.tmod (n : Int) ((2 ^ p : Nat) : Int) = ((n % 2 ^ p : Nat) : Int) := by
    rw [Int.tmod_eq_emod_of_nonneg (by omega)]; exact (Int.natCast_emod _ _).symm
  unfold shawmref05_divided.f divB
  rw [if_pos (by omega), shl_nat hp, if_neg (by omega), ht]
  by_cases h1 : n % 2 ^ p = 0
  · rw [if_pos (by omega), decide_eq_true h1, Bool.true_and]
    by_cases h2 : 0 < n
    · rw [if_pos (by omega), decide_eq_true h2, Bool.true_or]
    · rw [if_neg (by omega), decide_eq_false h2, Bool.false_or]
      congr 1
      rw [Bool.eq_iff_iff]
      simp
  · rw [if_neg (by omega), decide_eq_false h1, Bool.false_and]
theorem ref_order_l0 (l : List Int) (hs : smallL l) (hl : l.length ≤ 100000) : ∀ (n p f : Nat) (s : Int × Int), p + n = 4 → n + 100040 < f → shawmref05_order.l0 f l s.1 s.2 (p : Int) = some (iter (ostep l) n p s)
  | n, p, 0, s, _, h => by omega
  | 0, p, f + 1, s, hk, hf => by
    unfold shawmref05_order.l0
    rw [if_neg (by omega)]
    rfl
  | n + 1, p, f + 1, s, hk, hf => by
    unfold shawmref05_order.l0
    rw [if_pos (by omega), ref_divided _ _ (by omega)]
    simp only [Option.bind_some]
    rw [wrap64_id (by omega) (by omega), show (p : Int) + 1 = ((p + 1 : Nat) : Int) by omega]
    have ih := ref_order_l0 l hs hl n (p + 1) f (ostep l s p) (by omega) (by omega)
    unfold iter
    by_cases hd : divB l.length p = true
    · rw [if_pos hd, ref_whole l p f hs hl (by omega) (by omega)]
      simp only [Option.bind_some]
      have e : ostep l s p = bstep (wholeW l) s p := by unfold ostep; rw [if_pos hd]
      rw [e] at ih ⊢
      unfold bstep at ih ⊢
      by_cases h : wholeW l p < s.2
      · rw [if_pos h]; rw [if_pos h] at ih ⊢; exact ih
      · rw [if_neg h]; rw [if_neg h] at ih ⊢; exact ih
    · have e : ostep l s p = s := by unfold ostep; rw [if_neg hd]
      rw [if_neg hd]
      rw [e] at ih ⊢
      exact ih
theorem ref_order (l : List Int) (f : Nat) (hs : smallL l) (hl : l.length ≤ 100000) (hf : 100050 < f) : shawmref05_order.f f l = some (orderW l) := by
  have h0 := ref_whole l 0 f hs hl (by omega) (by omega)
  unfold shawmref05_order.f orderW
  rw [show (0 : Int) = ((0 : Nat) : Int) from rfl, h0]
  simp only [Option.bind_some]
  exact ref_order_l0 l hs hl 3 1 f (0, wholeW l 0) (by omega) (by omega)
theorem ref_listed_l0 (l : List Int) (hl : l.length ≤ 9000000000000000000) : ∀ (f i : Nat), i ≤ l.length → l.length - i < f → shawmref05_listed.l0 f l (l.length : Int) (i : Int) = some (if (l.drop i).all small then 0 else 6)
  | 0, i, _, h => by omega
  | f + 1, i, hi, hf => by
    unfold shawmref05_listed.l0
    by_cases hlt : i < l.length
    · have hr : rd l (i : Int) = l[i] := by unfold rd; rw [Int.toNat_natCast, List.getD_eq_getElem?_getD, List.getElem?_eq_getElem hlt]; rfl
      rw [if_pos (by omega), if_pos (by omega), if_pos (by omega), hr, ref_small]
      simp only [Option.bind_some]
      rw [List.drop_eq_getElem_cons hlt, List.all_cons]
      by_cases hs : small l[i] = true
      · rw [if_pos hs, hs, Bool.true_and, wrap64_id (by omega) (by omega), show (i : Int) + 1 = ((i + 1 : Nat) : Int) by omega]
        exact ref_listed_l0 l hl f (i + 1) (by omega) (by omega)
      · rw [if_neg hs]
        simp [hs]
    · obtain rfl : i = l.length := by omega
      rw [if_neg (by omega), List.drop_length]
      simp
theorem ref_listed (l : List Int) (f : Nat) (hl : l.length ≤ 9000000000000000000) (hf : l.length < f) : shawmref05_listed.f f l = some (chk l) := by
  unfold shawmref05_listed.f chk
  by_cases h : 8192 < l.length
  · rw [if_pos (by omega), if_pos h]
  · rw [if_neg (by omega), if_neg h]
    have := ref_listed_l0 l hl f 0 (by omega) (by omega)
    rw [List.drop_zero] at this
    exact this
theorem chk_zero {l : List Int} : chk l = 0 ↔ l.length ≤ 8192 ∧ smallL l := by
  unfold chk
  rw [← all_small]
  split
  · constructor
    · intro h; omega
    · intro h; omega
  · split
    · rename_i h1 h2; exact ⟨fun _ => ⟨by omega, h2⟩, fun _ => rfl⟩
    · rename_i h1 h2
      constructor
      · intro h; omega
      · intro h; exact absurd h.2 h2
def fCost (l : List Int) (k : Int) : Int × Int := if k < 0 ∨ 14 < k then (0, 1) else if chk l ≠ 0 then (0, chk l) else (sumW l k.toNat, 0)
def fBest (l : List Int) : Int × Int × Int := if chk l ≠ 0 then (0, 0, chk l) else ((bestW l).1, (bestW l).2, 0)
def fOrder (l : List Int) : Int × Int × Int := if chk l ≠ 0 then (0, 0, chk l) else ((orderW l).1, (orderW l).2, 0)
theorem ref_Cost (l : List Int) (k : Int) (f : Nat) (hl : l.length ≤ 9000000000000000000) (hf : l.length + 100100 < f) : shawmref05_Cost.f f l k = some (fCost l k) := by
  unfold shawmref05_Cost.f fCost
  obtain ⟨f, rfl⟩ : ∃ m, f = m + 1 := ⟨f - 1, by omega⟩
  by_cases h1 : k < 0
  · rw [if_pos h1, if_pos (.inl h1)]
    rw [shawmref05_Cost.j0]
    rw [if_pos rfl]
  · rw [if_neg h1]
    rw [shawmref05_Cost.j0]
    by_cases h2 : 14 < k
    · rw [if_pos (decide_eq_true h2), if_pos (.inr h2)]
    · rw [if_neg (fun e => h2 (of_decide_eq_true e)), if_neg (by omega), ref_listed l f hl (by omega)]
      simp only [Option.bind_some]
      by_cases h3 : chk l = 0
      · rw [if_pos h3, if_neg (fun h => h h3)]
        obtain ⟨h4, h5⟩ := chk_zero.1 h3
        obtain ⟨n, rfl⟩ : ∃ n : Nat, k = n := ⟨k.toNat, by omega⟩
        rw [shawmref05_cost_f l n f (by omega) h5 (by omega) (by omega)]
        simp only [Option.bind_some]
        rw [Int.toNat_natCast]
      · rw [if_neg h3, if_pos h3]
theorem ref_Best (l : List Int) (f : Nat) (hl : l.length ≤ 9000000000000000000) (hf : l.length + 100100 < f) : shawmref05_Best.f f l = some (fBest l) := by
  unfold shawmref05_Best.f fBest
  rw [ref_listed l f hl (by omega)]
  simp only [Option.bind_some]
  by_cases h3 : chk l = 0
  · rw [if_pos h3, if_neg (fun h => h h3)]
    obtain ⟨h4, h5⟩ := chk_zero.1 h3
    rw [ref_best l f h5 (by omega) (by omega)]
    rfl
  · rw [if_neg h3, if_pos h3]
theorem ref_Order (l : List Int) (f : Nat) (hl : l.length ≤ 9000000000000000000) (hf : l.length + 100100 < f) : shawmref05_Order.f f l = some (fOrder l) := by
  unfold shawmref05_Order.f fOrder
  rw [ref_listed l f hl (by omega)]
  simp only [Option.bind_some]
  by_cases h3 : chk l = 0
  · rw [if_pos h3, if_neg (fun h => h h3)]
    obtain ⟨h4, h5⟩ := chk_zero.1 h3
    rw [ref_order l f h5 (by omega) (by omega)]
    rfl
  · rw [if_neg h3, if_pos h3]
end Go.Proofs.Ytnpheeendbchbaa.P
end
