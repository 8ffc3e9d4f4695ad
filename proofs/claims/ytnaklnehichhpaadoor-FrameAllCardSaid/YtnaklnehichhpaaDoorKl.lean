/- The contracts of frame.begins, Find. The contracts of frame.Find, and of the iterator of all frames. -/
import Derived.Test.YtnaklnehichhpaaDoorKj
import Derived.RangeFuncNested
import Derived.RangeFuncBound
import Derived.RangeFuncCalls
import Derived.RangeFuncLeaves
namespace Go.Proofs.YtnaklnehichhpaaDoor.P
section
open Go.RowKit Go.Shelf Go.Proofs.YtnaklnehichhpaaDoor.Bits Go.Proofs.YtnaklnehichhpaaDoorW.PrintWords Go.Proofs.YtnaklnehichhpaaDoorW.PrintLast Go.Proofs.YtnaklnehichhpaaDoorW.PrintMore
set_option linter.unusedVariables false
set_option linter.unusedSimpArgs false
attribute [local go_sem ↓] Go.wp_at_zero Go.wp_at_succ

theorem sync_bits (B : List Int) (h8 : is8 B) : gv B 0 12 = B.getD 0 0 * 16 + B.getD 1 0 / 16 := by
  have h0 := getD8 h8 0
  have h1 := getD8 h8 1
  have e : ((ofB B 56).drop 0).take 12 = numb (B.getD 0 0 * 16 + B.getD 1 0 / 16) 12 := by
    rw [List.drop_zero, ofB_take B 12 56 (by omega)]
    have b0 : ∀ i, i < 8 → bitAt B i = B.getD 0 0 / 2 ^ (7 - i) % 2 := fun i hi => by unfold bitAt; rw [show i / 8 = 0 by omega, show i % 8 = i by omega]
    have b1 : ∀ i, 8 ≤ i → i < 16 → bitAt B i = B.getD 1 0 / 2 ^ (15 - i) % 2 := fun i h hi => by unfold bitAt; rw [show i / 8 = 1 by omega, show 7 - i % 8 = 15 - i by omega]
    simp only [ofB, numb, List.range_succ, List.range_zero, List.nil_append, List.map_append, List.map_cons, List.map_nil, List.append_assoc, List.cons_append, List.singleton_append]
    rw [b0 0 (by omega), b0 1 (by omega), b0 2 (by omega), b0 3 (by omega), b0 4 (by omega), b0 5 (by omega), b0 6 (by omega), b0 7 (by omega), b1 8 (by omega) (by omega), b1 9 (by omega) (by omega), b1 10 (by omega) (by omega), b1 11 (by omega) (by omega)]
    generalize B.getD 0 0 = x at *
    generalize B.getD 1 0 = y at *
    simp only [Nat.reduceSub, Int.reducePow, List.cons.injEq, and_true]
    omega
  unfold gv
  rw [e, val_numb]
  omega
/-- Is there a frame? -/
def okAt (B : List Int) (i : Nat) : Bool := decide ((fRead B (i : Int)).2.2 = 0)
/-- Where it ends. -/
def endF (B : List Int) (i : Nat) : Nat := i + 9 + (fRead B (i : Int)).2.1.length
theorem fRead_nat (B : List Int) (i : Nat) (h : i ≤ B.length) : fRead B (i : Int) = fReadB (B.drop i) := by
  unfold fRead
  rw [if_neg (by omega), Int.toNat_natCast]
theorem ok_len (B : List Int) (i : Nat) (hi : i ≤ B.length) (h : okAt B i = true) : endF B i ≤ B.length ∧ i < B.length := by
  unfold okAt at h
  unfold endF
  have h' := of_decide_eq_true h
  rw [fRead_nat B i hi] at h' ⊢
  have hd : (B.drop i).length = B.length - i := List.length_drop
  unfold fReadB at h' ⊢
  repeat' split at h'
  all_goals first | (exact absurd h' (by decide)) | skip
  rename_i a1 a2 a3 a4 a5 a6
  rw [if_neg a1, if_neg a2, if_neg a3, if_neg a4, if_neg a5, if_neg a6]
  dsimp only
  rw [List.length_take, List.length_drop]
  omega
theorem not_ok_short (B : List Int) (i : Nat) (hi : i ≤ B.length) (h : B.length - i < 9) : okAt B i = false := by
  unfold okAt
  rw [fRead_nat B i hi]
  unfold fReadB
  rw [if_pos (by rw [List.length_drop]; exact h)]
  rfl
theorem not_ok_sync (B : List Int) (i : Nat) (hi : i ≤ B.length) (h8 : is8 B) (h : ¬ (B.getD i 0 = 250 ∧ B.getD (i + 1) 0 / 16 = 13)) : okAt B i = false := by
  unfold okAt
  rw [fRead_nat B i hi]
  have hd8 : is8 (B.drop i) := fun b hb => h8 b (List.mem_of_mem_drop hb)
  have hs := sync_bits (B.drop i) hd8
  have g0 : (B.drop i).getD 0 0 = B.getD i 0 := by simp [List.getD_eq_getElem?_getD]
  have g1 : (B.drop i).getD 1 0 = B.getD (i + 1) 0 := by simp [List.getD_eq_getElem?_getD]
  rw [g0, g1] at hs
  have h0 := getD8 h8 i
  have h1 := getD8 h8 (i + 1)
  unfold fReadB
  split
  · rfl
  · rw [if_pos (by rw [hs]; omega)]
    rfl

set_option maxHeartbeats 2000000 in
set_option maxRecDepth 100000 in
theorem begins_any (A : Option Addr) (c : Nat) (B : List Int) (n : Nat) (w : World) (hC : Kd.C (Kd.int .u8) w A B.length B) (h8 : is8 B) (hBl : B.length ≤ 1000000000) (hc : B.length ≤ c) (hg : HG w) (hn : n < B.length) :
    Calls Tryd.prog 39 #[.slice A B.length c, .int .i64 (n : Int)] w fun e w' => ∃ x, e = .returned (.tuple #[.int .i64 x, .bool (okAt B n)]) ∧ (okAt B n = true → x = (endF B n : Int)) ∧ Below w.heap.size w w' := by
  obtain ⟨ad, e, hx⟩ := at8 hC n hn
  subst e
  have hx8 := getD8 h8 n
  have HREAD := Aside0.mk (Read_any (some ad) c B (n : Int) w hC h8 hBl hc hg)
  have HS := Aside0.mk (not_ok_short B n (by omega))
  have HY := Aside0.mk (not_ok_sync B n (by omega) h8)
  have i0 : (0 : Int) ≤ (n : Int) := by omega
  have i1 : (n : Int) < (B.length : Int) := by omega
  by_cases h9 : B.length - n < 9
  · have HN := Aside0.mk (HS.out h9)
    have d1 : decide ((B.length : Int) - (n : Int) < 9) = true := by simp; omega
    clear hx hx8 HREAD HS HY hC h8 hg
    go_enter Tryd.func39, Tryd.ntmps39
    go_wp2_with fail
    go_ret2
    rw [HN.out]
    exact ⟨_, rfl, (fun h => by cases h), Below.refl _ _⟩
  have d1 : decide ((B.length : Int) - (n : Int) < 9) = false := by simp; omega
  obtain ⟨ad', e', hy⟩ := at8 hC (n + 1) (by omega)
  injection e' with e'
  subst e'
  have hy8 := getD8 h8 (n + 1)
  rw [show ((n + 1 : Nat)) = n + 1 from rfl] at hy
  generalize B.getD n 0 = x at *
  obtain ⟨n1, hn1⟩ : ∃ n1, n1 = n + 1 := ⟨_, rfl⟩
  rw [← hn1] at hy hy8 HY
  generalize B.getD n1 0 = y at *
  have i2 : (0 : Int) ≤ (n1 : Int) := by omega
  have i3 : (n1 : Int) < (B.length : Int) := by omega
  have i4 : (n : Int) + 1 = (n1 : Int) := by omega
  clear hn1
  clear hC h8 hg h9 HS
  by_cases hx0 : x = 250
  case neg =>
    have q1 : (x != 250) = true := bne_iff_ne.2 hx0
    have HN := Aside0.mk (HY.out (fun h => hx0 h.1))
    clear HREAD HY
    go_enter Tryd.func39, Tryd.ntmps39
    go_wp2_with fail
    go_ret2
    rw [HN.out]
    exact ⟨_, rfl, (fun h => by cases h), Below.refl _ _⟩
  have q1 : (x != 250) = false := by rw [hx0]; rfl
  by_cases hy0 : y / 16 = 13
  case neg =>
    have q2 : (y / 16 != 13) = true := bne_iff_ne.2 hy0
    have HN := Aside0.mk (HY.out (fun h => hy0 h.2))
    clear HREAD HY hy0
    go_enter Tryd.func39, Tryd.ntmps39
    go_wp2_with fail
    go_ret2
    rw [HN.out]
    exact ⟨_, rfl, (fun h => by cases h), Below.refl _ _⟩
  have q2 : (y / 16 != 13) = false := by rw [hy0]; rfl
  have HE : Aside0 (okAt B n = decide ((fRead B (n : Int)).2.2 = 0)) := ⟨rfl⟩
  have HE2 : Aside0 (endF B n = n + 9 + (fRead B (n : Int)).2.1.length) := ⟨rfl⟩
  have HL := Aside0.mk (ok_len B n (by omega))
  clear HY hx0 hy0
  go_enter Tryd.func39, Tryd.ntmps39
  go_wp2_with fail
  refine HREAD.out.mono ?_
  rintro e w1 ⟨v, S', rfl, hr, hs, hb⟩
  obtain ⟨A1, c1, ev, _, hC1⟩ := Kd.R_reads hr
  subst ev
  have HB := Aside0.mk hb
  have hl := C_len8 hC1
  clear hr hs hb hC1
  unfold HD.val
  by_cases hz : (fRead B (n : Int)).2.2 = 0
  · have hok : okAt B n = true := by rw [HE.out]; exact decide_eq_true hz
    have hll := HL.out hok
    rw [HE2.out] at hll
    have HOK := Aside0.mk hok
    clear hok
    have HE3 : Aside0 ((endF B n : Int) = (n : Int) + 9 + ((fRead B (n : Int)).2.1.length : Int)) := ⟨by rw [HE2.out]; omega⟩
    rw [hz]
    generalize (fRead B (n : Int)).2.1.length = ln at *
    go_wp2_with fail
    go_ret2
    rw [HOK.out]
    exact ⟨_, rfl, (fun _ => by rw [HE3.out]; omega), by have := HB.out; exact this.trans (below_alloc (Below.refl _ _) _ |>.mono this.size)⟩
  · have hok : okAt B n = false := by rw [HE.out]; exact decide_eq_false hz
    have q3 : ((fRead B (n : Int)).2.2 == 0) = false := beq_eq_false_iff_ne.2 hz
    have HOK := Aside0.mk hok
    clear hok
    generalize (fRead B (n : Int)).2.1.length = ln at *
    generalize (fRead B (n : Int)).2.2 = er at *
    go_wp2_with fail
    go_ret2
    rw [HOK.out]
    exact ⟨_, rfl, (fun h => by cases h), by have := HB.out; exact this.trans (below_alloc (Below.refl _ _) _ |>.mono this.size)⟩
end
section
open Go.RowKit Go.Shelf Go.Proofs.YtnaklnehichhpaaDoor.Bits Go.Proofs.YtnaklnehichhpaaDoorW.PrintWords Go.Proofs.YtnaklnehichhpaaDoorW.PrintLast Go.Proofs.YtnaklnehichhpaaDoorW.PrintMore
set_option linter.unusedVariables false
set_option linter.unusedSimpArgs false

/-- The first frame from a position on. -/
def nextN (B : List Int) : Nat → Nat → Option Nat
  | 0, _ => none
  | f + 1, k => if okAt B k then some k else nextN B f (k + 1)
def nextF (B : List Int) (k : Nat) : Option Nat := nextN B (B.length - k) k
theorem nextF_step (B : List Int) (k : Nat) (h : k < B.length) : nextF B k = if okAt B k then some k else nextF B (k + 1) := by
  unfold nextF
  rw [show B.length - k = (B.length - (k + 1)) + 1 by omega]
  rfl
theorem nextF_end (B : List Int) (k : Nat) (h : B.length ≤ k) : nextF B k = none := by
  unfold nextF
  rw [show B.length - k = 0 by omega]
  rfl
theorem nextN_some (B : List Int) : ∀ (f k i : Nat), nextN B f k = some i → k ≤ i ∧ i < k + f ∧ okAt B i = true ∧ ∀ j, k ≤ j → j < i → okAt B j = false
  | 0, k, i, h => by cases h
  | f + 1, k, i, h => by
    rw [nextN] at h
    split at h
    · rename_i hk
      cases h
      exact ⟨Nat.le_refl _, by omega, hk, fun j h1 h2 => by omega⟩
    · rename_i hk
      obtain ⟨a, b, c, d⟩ := nextN_some B f (k + 1) i h
      refine ⟨by omega, by omega, c, fun j h1 h2 => ?_⟩
      by_cases hj : j = k
      · subst hj; simpa using hk
      · exact d j (by omega) h2
theorem nextF_some {B : List Int} {k i : Nat} (h : nextF B k = some i) : k ≤ i ∧ i < B.length ∧ okAt B i = true ∧ ∀ j, k ≤ j → j < i → okAt B j = false := by
  obtain ⟨a, b, c, d⟩ := nextN_some B _ k i h
  exact ⟨a, by omega, c, d⟩
theorem nextN_none (B : List Int) : ∀ (f k : Nat), nextN B f k = none → ∀ j, k ≤ j → j < k + f → okAt B j = false
  | 0, k, h, j, h1, h2 => by omega
  | f + 1, k, h, j, h1, h2 => by
    rw [nextN] at h
    split at h
    · cases h
    · rename_i hk
      by_cases hj : j = k
      · subst hj; simpa using hk
      · exact nextN_none B f (k + 1) h j (by omega) (by omega)
theorem nextF_none {B : List Int} {k : Nat} (h : nextF B k = none) : ∀ j, k ≤ j → j < B.length → okAt B j = false := fun j h1 h2 => nextN_none B _ k h j h1 (by omega)
def fFind (B : List Int) (a : Int) : Int × Int := if a < 0 ∨ (B.length : Int) < a then (0, 6) else match nextF B a.toNat with
  | some i => ((i : Int), 0)
  | none => (0, 5)
/-- All frames: where they begin, and where they end. -/
def allN (B : List Int) : Nat → Nat → List (Nat × Nat)
  | 0, _ => []
  | f + 1, k => match nextF B k with
    | none => []
    | some i => (i, endF B i) :: allN B f (endF B i)
def allF (B : List Int) : List (Nat × Nat) := allN B (B.length + 1) 0
theorem endF_gt (B : List Int) (i : Nat) : i < endF B i := by unfold endF; omega

section
attribute [local go_sem ↓] Go.wp_at_zero Go.wp_at_succ
set_option maxHeartbeats 2000000 in
set_option maxRecDepth 100000 in
theorem Find_any (A : Option Addr) (c : Nat) (B : List Int) (at_ : Int) (w : World) (hC : Kd.C (Kd.int .u8) w A B.length B) (h8 : is8 B) (hBl : B.length ≤ 1000000000) (hc : B.length ≤ c) (hg : HG w) :
    Calls Tryd.prog 18 #[.slice A B.length c, .int .i64 at_] w fun e w' => e = .returned (.tuple #[.int .i64 (fFind B at_).1, .int .i64 (fFind B at_).2]) ∧ Below w.heap.size w w' := by
  have HC := Aside0.mk hC
  have H8 := Aside0.mk h8
  have HGW := Aside0.mk hg
  clear hC h8 hg
  by_cases h1 : at_ < 0
  · have HN : Aside0 (fFind B at_ = (0, 6)) := ⟨by unfold fFind; rw [if_pos (.inl h1)]⟩
    have d1 : decide (at_ < 0) = true := by simpa using h1
    go_enter Tryd.func18, Tryd.ntmps18
    go_wp2_with fail
    go_ret2
    rw [HN.out]
    exact ⟨rfl, Below.refl _ _⟩
  by_cases h2 : (B.length : Int) < at_
  · have HN : Aside0 (fFind B at_ = (0, 6)) := ⟨by unfold fFind; rw [if_pos (.inr h2)]⟩
    have d1 : decide (at_ < 0) = false := by simpa using h1
    have d2 : decide ((B.length : Int) < at_) = true := by simpa using h2
    go_enter Tryd.func18, Tryd.ntmps18
    go_wp2_with fail
    go_ret2
    rw [HN.out]
    exact ⟨rfl, Below.refl _ _⟩
  obtain ⟨n, rfl⟩ : ∃ n : Nat, at_ = (n : Int) := ⟨at_.toNat, by omega⟩
  have hn : n ≤ B.length := by omega
  have d1 : decide ((n : Int) < 0) = false := by simp
  have d2 : decide ((B.length : Int) < (n : Int)) = false := by simp; omega
  have d3 : decide (B.length < n) = false := by simp; omega
  have HF : Aside0 (fFind B (n : Int) = match nextF B n with | some i => ((i : Int), 0) | none => (0, 5)) := ⟨by unfold fFind; rw [if_neg (by omega), Int.toNat_natCast]⟩
  clear h1 h2
  go_enter Tryd.func18, Tryd.ntmps18
  go_wp2_with fail
  go_loopw [6] (fun i wr => ∃ k : Nat, i = .int .i64 (k : Int) ∧ k ≤ B.length ∧ Aside0 (nextF B n = nextF B k) ∧ Aside0 (Below w.heap.size w wr)) (fun i _ => B.length - (intOf i).toNat)
  case atStart => exact ⟨n, rfl, hn, ⟨rfl⟩, ⟨Below.refl _ _⟩⟩
  case round =>
    obtain ⟨k, rfl, hk, HX, HB⟩ := hrel
    by_cases hlt : k < B.length
    · have HST := Aside0.mk (nextF_step B k hlt)
      have HBE := Aside0.mk (begins_any A c B k wr (Kd.C_below HC.out HB.out) H8.out hBl hc (HGW.out.below HB.out) hlt)
      cases hok : okAt B k with
      | true =>
        rw [hok] at HBE
        have HR : Aside0 (fFind B (n : Int) = ((k : Int), 0)) := ⟨by rw [HF.out, HX.out, HST.out, hok]; rfl⟩
        clear hok
        go_wp2_with fail
        refine HBE.out.mono ?_
        rintro e w1 ⟨x, rfl, _, hb⟩
        have HB1 := Aside0.mk (HB.out.trans (hb.mono HB.out.size))
        clear hb
        go_wp2_with fail
        go_ret2
        rw [HR.out]
        exact ⟨rfl, HB1.out⟩
      | false =>
        rw [hok] at HBE
        have HX1 : Aside0 (nextF B n = nextF B (k + 1)) := ⟨by rw [HX.out, HST.out, hok]; rfl⟩
        clear hok
        go_wp2_with fail
        refine HBE.out.mono ?_
        rintro e w1 ⟨x, rfl, _, hb⟩
        have HB1 := Aside0.mk (HB.out.trans (hb.mono HB.out.size))
        clear hb
        go_wp2_with fail
        go_roundw
        case rel => exact ⟨k + 1, by go_num, by omega, HX1, HB1⟩
        case measure => simp [intOf]; omega
    · have HR : Aside0 (fFind B (n : Int) = (0, 5)) := ⟨by rw [HF.out, HX.out, nextF_end B k (by omega)]⟩
      go_wp2_with fail
      go_ret2
      rw [HR.out]
      exact ⟨rfl, HB.out⟩
abbrev seqA (bx : Nat) : Value := .func (.func 58) #[] #[.pointer (some ⟨bx, 0, none⟩)]
abbrev byteBox (A : Option Addr) (n c : Nat) : Obj := .cells #[.slice A n c] 24 (0, 0)
theorem all_any (A : Option Addr) (n c : Nat) (w : World) : Calls Tryd.prog 41 #[.slice A n c] w fun e w' => e = .returned (seqA w.heap.size) ∧ w' = w.alloc (byteBox A n c) := by
  go_enter Tryd.func41, Tryd.ntmps41
  go_wp2
  go_ret
  simp
end
theorem Below.toGrown {W W' : World} (h : Below W.heap.size W W') : W.grownBy W' none := ⟨h.os, h.tape, h.output, h.size, fun k hk _ => h.block k hk⟩

attribute [local go_sem] Oper.semAt_some
set_option maxHeartbeats 4000000 in
set_option maxRecDepth 100000 in
theorem all_stops (m bx : Nat) (A : Option Addr) (c : Nat) (B : List Int) (T : Nat → Prop) (w0 w : World) (hbx : w.heap[bx]? = some (byteBox A B.length c)) (hC : Kd.C (Kd.int .u8) w0 A B.length B) (h8 : is8 B) (hBl : B.length ≤ 1000000000) (hc : B.length ≤ c) (hg : HG w0) (hb0 : Below w0.heap.size w0 w) (hT : ∀ k, T k → w0.heap.size ≤ k ∧ k ≠ bx) :
    SeqStopsK Fence.wide m Tryd.prog 58 #[.pointer (some ⟨bx, 0, none⟩)] (fun x : Nat × Nat => #[Value.int .i64 (x.1 : Int), .int .i64 (x.2 : Int)]) (Fr T) (fun xs => xs = allF B) (fun _ => True) (B.length + 1) w := by
  intro l J Jx W hW hJ hJx hY h0
  have hbxW := (hW.block bx (lt_of_block hbx)).trans hbx
  have hbW := hb0.trans (hW.mono hb0.size)
  have HC := Aside0.mk hC
  have H8 := Aside0.mk h8
  have HGW := Aside0.mk hg
  have HY := Aside0.mk hY
  have HJ0 := Aside0.mk hJ
  have HT := Aside0.mk hT
  have HBX := Aside0.mk hbxW
  have HBW := Aside0.mk hbW
  clear hbx hW hbxW hb0 hbW hC h8 hg hY hT
  refine callsIn_of_wp Tryd.func58 rfl trivial ?_ rfl
  simp only [Tryd.ntmps58, List.size_toArray, List.length_cons, List.length_nil, Nat.reduceAdd, Nat.reduceSub, Array.replicate_succ, Array.replicate_zero, List.push_toArray, List.append_toArray, List.nil_append, List.cons_append]
  gi_wp2
  gi_loopw [3] (fun u wr => ∃ k f : Nat, ∃ pre : List (Nat × Nat), u = .int .i64 (k : Int) ∧ k ≤ B.length ∧ B.length < k + f ∧ pre.length ≤ k ∧ Aside0 (allF B = pre ++ allN B f k) ∧ Aside0 (J pre wr) ∧ Aside0 (Below w0.heap.size w0 wr) ∧ Aside0 (wr.heap[bx]? = some (byteBox A B.length c))) (fun u _ => B.length + 1 - (intOf u).toNat)
  case atStart => exact ⟨0, B.length + 1, [], rfl, Nat.zero_le _, by omega, by simp, ⟨rfl⟩, ⟨h0⟩, HBW, HBX⟩
  case round =>
    obtain ⟨k, f, pre, rfl, hk, hf, hpl, HA, HJ, HB, HX⟩ := hrel
    have cx := cell_of_one HX.out
    have HFI := Aside0.mk (Find_any A c B (k : Int) wr (Kd.C_below HC.out HB.out) H8.out hBl hc (HGW.out.below HB.out))
    obtain ⟨f', rfl⟩ : ∃ f', f = f' + 1 := ⟨f - 1, by omega⟩
    have hfk : fFind B (k : Int) = match nextF B k with | some i => ((i : Int), 0) | none => (0, 5) := by unfold fFind; rw [if_neg (by omega), Int.toNat_natCast]
    cases hnx : nextF B k with
    | none =>
      rw [hnx] at hfk
      rw [hfk] at HFI
      have HE : Aside0 (allF B = pre) := ⟨by rw [HA.out, allN, hnx]; simp⟩
      clear hfk hnx
      gi_wp2
      refine ⟨trivial, (fun h => by simp [Fence.wide] at h), ?_⟩
      refine CallsIn.mono (callsIn_wide.2 HFI.out) ?_
      rintro e w1 ⟨rfl, hb⟩
      have HB1 := Aside0.mk hb
      clear hb
      gi_wp2
      refine bodyPost_ret (results_none rfl _ _ _) rfl ?_
      have hJ1 := HJ0.out _ _ _ none HJ.out (Below.toGrown HB1.out) (fun r e => by cases e)
      exact ⟨⟨_, rfl⟩, .inl ⟨pre, HE.out.symm, hJ1⟩⟩
    | some i =>
      rw [hnx] at hfk
      rw [hfk] at HFI
      obtain ⟨q1, q2, q3, _⟩ := nextF_some hnx
      obtain ⟨q4, _⟩ := ok_len B i (by omega) q3
      have q5 := endF_gt B i
      have HE : Aside0 (allF B = (pre ++ [(i, endF B i)]) ++ allN B f' (endF B i)) := ⟨by rw [HA.out, allN, hnx]; simp⟩
      have HBG := fun W' h1 h2 => begins_any A c B i W' h1 H8.out hBl hc h2 q2
      rw [q3] at HBG
      have HBG := Aside0.mk HBG
      generalize endF B i = en at *
      clear hfk hnx q3
      gi_wp2
      refine ⟨trivial, (fun h => by simp [Fence.wide] at h), ?_⟩
      refine CallsIn.mono (callsIn_wide.2 HFI.out) ?_
      rintro e w1 ⟨rfl, hb⟩
      have hJ1 := HJ0.out _ _ _ none HJ.out (Below.toGrown hb) (fun r e => by cases e)
      have hB1 := HB.out.trans (hb.mono HB.out.size)
      have hX1 := blk_fr HX.out (Fr.below hb (fun _ => False)) (fun h => h)
      have cx1 := cell_of_one hX1
      have HBG1 := Aside0.mk (HBG.out w1 (Kd.C_below HC.out hB1) (HGW.out.below hB1))
      have HJ1 := Aside0.mk hJ1
      have HB1 := Aside0.mk hB1
      have HX1 := Aside0.mk hX1
      clear hb hJ1 hB1 hX1 cx
      gi_wp2
      refine ⟨trivial, (fun h => by simp [Fence.wide] at h), ?_⟩
      refine CallsIn.mono (callsIn_wide.2 HBG1.out) ?_
      rintro e w2 ⟨x, rfl, hxe, hb⟩
      obtain rfl := hxe trivial
      have hJ2 := HJ0.out _ _ _ none HJ1.out (Below.toGrown hb) (fun r e => by cases e)
      have hB2 := HB1.out.trans (hb.mono HB1.out.size)
      have hX2 := blk_fr HX1.out (Fr.below hb (fun _ => False)) (fun h => h)
      obtain ⟨fn, tmps, assign, body, hy, hR⟩ := HY.out _ (i, en) _ hJ2 (by omega)
      have HRR := Aside0.mk hR
      have HB2 := Aside0.mk hB2
      have HX2 := Aside0.mk hX2
      clear hb hJ2 hB2 hX2 cx1 hR hxe
      gi_wp2
      refine ⟨fun h => by simp [Fence.wide] at h, ?_⟩
      refine HRR.out.mono ?_
      rintro e W' (⟨rfl, hJ', hk'⟩ | ⟨rfl, hJx'⟩)
      · have HJ' := Aside0.mk hJ'
        have HB' := Aside0.mk (HB2.out.trans (hk'.to_below HB2.out.size (fun j hj => (HT.out j hj).1)))
        have HX' := Aside0.mk (blk_fr HX2.out hk' (fun h => (HT.out _ h).2 rfl))
        clear hJ' hk'
        gi_wp2
        go_roundw
        case rel => exact ⟨en, f', pre ++ [(i, en)], by go_num, by omega, by omega, by simp; omega, HE, HJ', HB', HX'⟩
        case measure => simp [intOf]; omega
      · gi_wp2
        refine bodyPost_ret (results_none rfl _ _ _) rfl ?_
        exact ⟨⟨_, rfl⟩, .inr ⟨_, trivial, hJx'⟩⟩
end
end Go.Proofs.YtnaklnehichhpaaDoor.P
