/- The bits of a number, one by one: bits.number's iterator, and bits.each over it. -/
import Derived.Test.YtnaklnehichhpaaDoorBb
import Derived.RangeFuncNested
import Derived.RangeFuncBound
import Derived.RangeFuncCalls
import Derived.RangeFuncLeaves
namespace Go.Proofs.YtnaklnehichhpaaDoor.P
open Go.RowKit Go.Shelf Go.Proofs.YtnaklnehichhpaaDoor.Bits Go.Proofs.YtnaklnehichhpaaDoorW.PrintWords Go.Proofs.YtnaklnehichhpaaDoorW.PrintLast Go.Proofs.YtnaklnehichhpaaDoorW.PrintMore
set_option linter.unusedVariables false
set_option linter.unusedSimpArgs false
attribute [local go_sem] Oper.semAt_some

theorem grown_drew (W : World) : W.grownBy W.drew none := ⟨rfl, rfl, rfl, Nat.le_refl _, fun _ _ _ => rfl⟩
theorem numb_take (v : Int) (n k : Nat) (h : k < n) : (numb v n).take (k + 1) = (numb v n).take k ++ [v / 2 ^ (n - 1 - k) % 2] := by
  rw [List.take_add_one]
  simp [numb, h]

/-- A bit, as a type. -/
abbrev Bit : Type := { x : Int // x = 0 ∨ x = 1 }
def numbB (v : Int) (n : Nat) : List Bit := (List.range n).map fun i => ⟨v / 2 ^ (n - 1 - i) % 2, by omega⟩
theorem numbB_val (v : Int) (n : Nat) : (numbB v n).map (·.1) = numb v n := by simp [numbB, numb, Function.comp_def]
theorem numbB_length (v : Int) (n : Nat) : (numbB v n).length = n := by simp [numbB]
theorem numbB_take (v : Int) (n k : Nat) (h : k < n) : (numbB v n).take (k + 1) = (numbB v n).take k ++ [⟨v / 2 ^ (n - 1 - k) % 2, by omega⟩] := by
  rw [List.take_add_one]
  simp [numbB, h]
theorem div_zero_of_lt (v : Int) (j : Nat) (h : 0 ≤ v) (hv : v < 2 ^ j) : v / 2 ^ j = 0 := Int.ediv_eq_zero_of_lt h hv
theorem and_shift (v : Int) (j : Nat) (h0 : 0 ≤ v) (h1 : v ≤ 9223372036854775807) : Go.bits BinOp.and IntKind.i64 (v / 2 ^ min j 64) 1 = v / 2 ^ j % 2 := by
  have e : v / 2 ^ min j 64 = v / 2 ^ j := by
    by_cases hj : j ≤ 64
    · rw [Nat.min_eq_left hj]
    · have hp : (2 : Int) ^ 64 ≤ 2 ^ j := by
        have := Nat.pow_le_pow_right (show 0 < 2 by omega) (show 64 ≤ j by omega)
        exact_mod_cast this
      rw [Nat.min_eq_right (by omega), div_zero_of_lt v 64 h0 (by omega), div_zero_of_lt v j h0 (by omega)]
  have h2 := Int.ediv_nonneg h0 (Int.le_of_lt (Int.pow_pos (show (0 : Int) < 2 by omega)) : (0 : Int) ≤ 2 ^ j)
  have h3 := Int.ediv_le_self (2 ^ j) h0
  rw [e, and1_i64 _ (by omega)]
set_option maxHeartbeats 1000000 in
set_option maxRecDepth 100000 in
theorem number_stops (m bn bv n : Nat) (v : Int) (T : Nat → Prop) (w : World) (hbn : w.cell? ⟨bn, 0, none⟩ = some (.int .i64 n)) (hbv : w.cell? ⟨bv, 0, none⟩ = some (.int .i64 v))
    (hTn : ¬ T bn) (hTv : ¬ T bv) (hn : n ≤ 100000) (hv : 0 ≤ v) (hv' : v ≤ 9223372036854775807) :
    SeqStopsK Fence.wide m Tryd.prog 60 #[.pointer (some ⟨bn, 0, none⟩), .pointer (some ⟨bv, 0, none⟩)] (fun x : Bit => #[Value.int .i64 x.1]) (Fr T) (fun xs => xs = numbB v n) (fun _ => True) n w := by
  intro l J Jx W hW hJ hJx hY h0
  have lbn := World.block_lt_of_cell? w _ hbn
  have lbv := World.block_lt_of_cell? w _ hbv
  have hbnW : W.cell? ⟨bn, 0, none⟩ = some (.int .i64 n) := (hW.cell (p := ⟨bn, 0, none⟩) lbn).trans hbn
  have hbvW : W.cell? ⟨bv, 0, none⟩ = some (.int .i64 v) := (hW.cell (p := ⟨bv, 0, none⟩) lbv).trans hbv
  have lbnW := World.block_lt_of_cell? W _ hbnW
  have lbvW := World.block_lt_of_cell? W _ hbvW
  refine callsIn_of_wp Tryd.func60 rfl trivial ?_ rfl
  simp only [Tryd.ntmps60, List.size_toArray, List.length_cons, List.length_nil, Nat.reduceAdd, Nat.reduceSub, Array.replicate_succ, Array.replicate_zero, List.push_toArray, List.append_toArray, List.nil_append, List.cons_append]
  gi_wp2
  gi_loopw [4] (fun u wr => ∃ k : Nat, u = .int .i64 ((n : Int) - 1 - k) ∧ k ≤ n ∧ Aside0 (J ((numbB v n).take k) wr) ∧ Aside0 (Fr T W wr)) (fun u _ => (intOf u + 1).toNat)
  case atStart => exact ⟨0, by simp, Nat.zero_le _, ⟨by simpa using h0⟩, ⟨Fr.refl _ _⟩⟩
  case round =>
    obtain ⟨k, rfl, hk, HJ, HF⟩ := hrel
    have hb1 : wr.cell? ⟨bv, 0, none⟩ = some (.int .i64 v) := (World.cell?_of_block (HF.out.block bv lbvW hTv)).trans hbvW
    by_cases hlt : k < n
    · have i0 : (0 : Int) ≤ (n : Int) - 1 - k := by omega
      have hx := and_shift v (n - 1 - k) hv hv'
      have hnt := numbB_take v n k hlt
      obtain ⟨xb, hxb, hxe⟩ : ∃ xb : Bit, xb.1 = Go.bits BinOp.and IntKind.i64 (v / 2 ^ min (n - 1 - k) 64) 1 ∧ xb = ⟨v / 2 ^ (n - 1 - k) % 2, by omega⟩ := ⟨⟨v / 2 ^ (n - 1 - k) % 2, by omega⟩, hx.symm, rfl⟩
      rw [← hxe] at hnt
      obtain ⟨fn, tmps, assign, body, hy, hR⟩ := hY _ xb wr HJ.out (by rw [List.length_take, numbB_length]; omega)
      rw [hxb] at hy
      have HRR := Aside0.mk hR
      have HNT := Aside0.mk hnt
      clear hx hnt hR hxb hxe
      gi_wp2
      refine ⟨fun h => by simp [Fence.wide] at h, ?_⟩
      refine HRR.out.mono ?_
      rintro e W' (⟨rfl, hJ', hk'⟩ | ⟨rfl, hJx'⟩)
      · have HJ' := Aside0.mk hJ'
        have HK' := Aside0.mk hk'
        clear hJ' hk'
        gi_wp2
        go_roundw
        case rel => exact ⟨k + 1, by go_num, by omega, ⟨by rw [HNT.out]; exact HJ'.out⟩, ⟨HF.out.trans HK'.out⟩⟩
        case measure => simp [intOf]; omega
      · gi_wp2
        refine bodyPost_ret (results_none rfl _ _ _) rfl ?_
        exact ⟨⟨_, rfl⟩, .inr ⟨_, trivial, hJx'⟩⟩
    · have hk1 : k = n := by omega
      have HE : Aside0 ((numbB v n).take k = numbB v n) := ⟨by rw [List.take_of_length_le]; rw [numbB_length]; omega⟩
      have hlx : ¬ (0 : Int) ≤ (n : Int) - 1 - k := by omega
      clear hk1
      gi_wp2
      go_end0
      exact ⟨⟨_, rfl⟩, .inl (by have := HJ.out; rw [HE.out] at this; first | exact this | exact ⟨_, rfl, this⟩)⟩

/-- What a round may turn are cells. -/
theorem Fr.keepsFrom {T : Nat → Prop} {a b : World} {B : Nat} (h : Fr T a b) (hc : ∀ k, T k → ∀ o, a.heap[k]? = some o → o.isCells = true) : KeepsFrom B a b :=
  ⟨h.size, fun i o _ hi ho => by
    rw [h.block i (lt_of_block hi) (fun ht => by have := hc i ht o hi; rw [ho] at this; cases this)]
    exact hi⟩

set_option maxHeartbeats 1000000 in
set_option maxRecDepth 100000 in
theorem each_any (df : Nat) (rcv lb : Array Value) (eg : ∀ args w, (callFunc df args).run Tryd.prog w = .ok (.enter df args) w) (bn bv n : Nat) (v : Int) (T : Nat → Prop) (J : List Int → World → Prop) (w : World)
    (hbn : w.cell? ⟨bn, 0, none⟩ = some (.int .i64 n)) (hbv : w.cell? ⟨bv, 0, none⟩ = some (.int .i64 v)) (hTn : ¬ T bn) (hTv : ¬ T bv) (hT0 : ¬ T w.heap.size) (hTN : ∀ k, w.heap.size < k → T k)
    (hn : n ≤ 100000) (hv : 0 ≤ v) (hv' : v ≤ 9223372036854775807) (hJ : OwnFrom (w.heap.size + 1) J) (h0 : J [] (w.alloc (.cells #[.func (.func df) rcv lb] 87)))
    (hdo : ∀ pre b W, (b = 0 ∨ b = 1) → J pre W → pre.length < n → Fr T (w.alloc (.cells #[.func (.func df) rcv lb] 87)) W → Calls Tryd.prog df (rcv ++ #[.int .i64 b] ++ lb) W fun e W' => (∃ u, e = .returned u) ∧ J (pre ++ [b]) W' ∧ Fr T W W' ∧ KeepsFrom (w.heap.size + 1) W W') :
    Calls Tryd.prog 47 #[.func (.func 60) #[] #[.pointer (some ⟨bn, 0, none⟩), .pointer (some ⟨bv, 0, none⟩)], .func (.func df) rcv lb] w fun e w' => e = .returned (.tuple #[]) ∧ J (numb v n) w' ∧ Fr T (w.alloc (.cells #[.func (.func df) rcv lb] 87)) w' := by
  have hst := number_stops 4 bn bv n v T w hbn hbv hTn hTv hn hv hv'
  have HST := Aside0.mk hst
  have HDO := Aside0.mk hdo
  have H0 := Aside0.mk h0
  have HOF := Aside0.mk hJ
  have HTN := Aside0.mk hTN
  clear hst hbn hbv hdo h0 hJ hTN
  refine (callsIn_wide (n := 5)).1 ?_
  refine callsIn_of_wp_marks Tryd.func47 rfl trivial ?_ rfl
  simp only [Tryd.ntmps47, List.size_toArray, List.length_cons, List.length_nil, Nat.reduceAdd, Nat.reduceSub, Array.replicate_succ, Array.replicate_zero, List.push_toArray, List.append_toArray, List.nil_append, List.cons_append]
  gi_wp2
  have hsz : (w.alloc (.cells #[.func (.func df) rcv lb] 87)).heap.size = w.heap.size + 1 := Array.size_push _
  have HSZ := Aside0.mk hsz
  clear hsz
  generalize hw1 : w.alloc (.cells #[.func (.func df) rcv lb] 87) = w1 at *
  have HBX : Aside0 (w1.heap[w.heap.size]? = some (.cells #[.func (.func df) rcv lb] 87 (0, 0))) := ⟨by rw [← hw1]; exact World.alloc_heap_new w _⟩
  have HB1 : Aside0 (Below w.heap.size w w1) := ⟨by rw [← hw1]; exact below_alloc (Below.refl _ _) _⟩
  have HW1 := Aside0.mk hw1
  clear hw1
  refine wpIn_rangeFunc_ownG rfl (by omega) (gf := 60) (lb := #[.pointer (some ⟨bn, 0, none⟩), .pointer (some ⟨bv, 0, none⟩)]) rfl trivial (enters_of Tryd.func60 (by kernel_rfl) rfl)
    HST.out (fun h k => h.trans k) ?hKb HB1.out (fun _ => rfl)
    (fun pre W => J (pre.map (·.1)) W ∧ Fr T w1 W ∧ W.heap[w.heap.size]? = some (.cells #[.func (.func df) rcv lb] 87 (0, 0)))
    (fun _ _ _ => False) ?hI (fun _ _ _ _ _ hs _ _ => hs) ⟨H0.out, Fr.refl _ _, HBX.out⟩
    (fun v => { tmps := #[.func (.func 60) #[] #[.pointer (some ⟨bn, 0, none⟩), .pointer (some ⟨bv, 0, none⟩)], .func (.func df) rcv lb, undef, .pointer (some ⟨w.heap.size, 0, none⟩), .int .i64 v.1, .func (.func 60) #[] #[.pointer (some ⟨bn, 0, none⟩), .pointer (some ⟨bv, 0, none⟩)], .int .i64 v.1, undef, undef, undef], defers := [] })
    ?assign ?body ?done ?stop
  case hKb =>
    intro W l o o' hl ho _ _
    exact (Fr.refl _ _).grown (grownBy_putObj' W l o') (fun k hk e => by cases e; exact HTN.out l (by have := HSZ.out; omega))
  case hI =>
    intro s A B row hs hg hr
    have hgt : ∀ k, row = some k → w.heap.size < k := fun k e => by have := (hr k e).1; have := HSZ.out; omega
    refine ⟨HOF.out _ _ _ _ hs.1 hg (fun k e => ⟨by have := hgt k e; omega, (hr k e).2⟩), hs.2.1.grown hg (fun k _ e => HTN.out k (hgt k e)), ?_⟩
    exact (hg.block _ (lt_of_block hs.2.2) (fun e => by have := hgt _ e.symm; omega)).trans hs.2.2
  case assign =>
    intro l v W K hK
    gi_wp2
    exact hK
  case body =>
    rintro l pre v W ⟨hJ, hF, hbx⟩ hlen
    have hc := cell_of_one hbx
    have HD := Aside0.mk (HDO.out (pre.map (·.1)) v.1 W v.2 hJ (by simpa using hlen) hF)
    have HF := Aside0.mk hF
    have HX := Aside0.mk hbx
    clear hF hbx hJ
    gi_wp2
    refine ⟨trivial, ?_⟩
    have hcall := callsIn_wide (n := 2).2 HD.out
    simp only [Array.append_singleton] at hcall
    refine CallsIn.mono (show CallsIn (Fence.wide.inRound l) 2 Tryd.prog df _ W _ from hcall) ?_
    rintro e W' ⟨⟨u, rfl⟩, hJ', hF', hK'⟩
    have hbx' := blk_fr HX.out hF' hT0
    gi_wp2
    refine ⟨?_, hF', ?_, HF.out.trans hF', hbx'⟩
    · rw [HSZ.out]; exact hK'
    · rw [List.map_append]; exact hJ'
  case done =>
    rintro D ys W hD rfl ⟨hJ, hF, hbx⟩ hK
    rw [numbB_val] at hJ
    have HJ := Aside0.mk hJ
    have HF := Aside0.mk hF
    clear hJ hF hbx
    gi_wp2
    refine ⟨by simp, .inl ⟨_, _, rfl, run_takeDeferred hK, ?_⟩⟩
    refine ⟨_, results_none rfl _ _ _, rfl, HOF.out.putObj _ HJ.out (by have := HSZ.out; omega) hK rfl, ?_⟩
    rw [HW1.out]
    exact HF.out.grown (grownBy_putObj' W D _) (fun k _ e => by cases e; exact HTN.out D (by have := HSZ.out; omega))
  case stop =>
    rintro D c pre W _ _ h _
    exact h.elim
end Go.Proofs.YtnaklnehichhpaaDoor.P
