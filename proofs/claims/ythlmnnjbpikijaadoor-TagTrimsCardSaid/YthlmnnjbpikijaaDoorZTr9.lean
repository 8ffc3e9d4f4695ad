/- The bits of a number, one by one: bits.number's iterator, and bits.each over it. The contracts of bits.number, of bits.each with Writer.add, of Writer.put. The contract of Writer.put. The contracts of Writer.Put, Signed, Unary, Gamma, Align, Append. The contracts of Writer.Align, Append, Len, New. -/
import Derived.RangeFuncNested
import Derived.RangeFuncBound
import Derived.RangeFuncCalls
import Derived.RangeFuncLeaves
import Derived.Test.YthlmnnjbpikijaaDoorZTr8
section
namespace Go.Proofs.YthlmnnjbpikijaaDoor.P
open Go.RowKit Go.Shelf Go.Proofs.YthlmnnjbpikijaaDoor.Bits Go.Proofs.YthlmnnjbpikijaaDoorW.PrintWords Go.Proofs.YthlmnnjbpikijaaDoorW.PrintLast Go.Proofs.YthlmnnjbpikijaaDoorW.PrintMore
set_option linter.unusedVariables false
set_option linter.unusedSimpArgs false
attribute [local go_sem] Oper.semAt_some
/-- A bit, as a type. -/
abbrev Bit : Type := { x : Int // x = 0 ∨ x = 1 }
def numbB (v : Int) (n : Nat) : List Bit := (List.range n).map fun i => ⟨v / 2 ^ (n - 1 - i) % 2, by omega⟩
theorem numbB_val (v : Int) (n : Nat) : (numbB v n).map (·.1) = numb v n := by simp [numbB, numb, Function.comp_def]
theorem numbB_length (v : Int) (n : Nat) : (numbB v n).length = n := by simp [numbB]
theorem numbB_take (v : Int) (n k : Nat) (h : k < n) : (numbB v n).take (k + 1) = (numbB v n).take k ++ [⟨v / 2 ^ (n - 1 - k) % 2, by omega⟩] := by
  rw [List.take_add_one]
  simp [numbB, h]
theorem div_zero_of_lt (v : Int) (j : Nat) (h : 0 ≤ v) (hv : v < 2 ^ j) : v / 2 ^ j = 0 := Int.ediv_eq_zero_of_lt h hv
theorem and_shift (v : Int) (j : Nat) (h0 : 0 ≤ v) (h1 : v ≤ 9223372036854775807) : Go.bits BinOp.and IntKind.i64 (v / 2 ^ min j 64) 1 = v / 2 ^ j % 2 := by
  have e : v / 2 ^ min j 64 = v / 2 ^ j := by
    by_cases hj : j ≤ 64
    · rw [Nat.min_eq_left hj]
    · have hp : (2 : Int) ^ 64 ≤ 2 ^ j := by
        have := Nat.pow_le_pow_right (show 0 < 2 by omega) (show 64 ≤ j by omega)
        exact_mod_cast this
      rw [Nat.min_eq_right (by omega), div_zero_of_lt v 64 h0 (by omega), div_zero_of_lt v j h0 (by omega)]
  have h2 := Int.ediv_nonneg h0 (Int.le_of_lt (Int.pow_pos (show (0 : Int) < 2 by omega)) : (0 : Int) ≤ 2 ^ j)
  have h3 := Int.ediv_le_self (2 ^ j) h0
  rw [e, and1_i64 _ (by omega)]
set_option maxHeartbeats 1000000 in
set_option maxRecDepth 100000 in
theorem number_stops (m bn bv n : Nat) (v : Int) (T : Nat → Prop) (w : World) (hbn : w.cell? ⟨bn, 0, none⟩ = some (.int .i64 n)) (hbv : w.cell? ⟨bv, 0, none⟩ = some (.int .i64 v))
    (hTn : ¬ T bn) (hTv : ¬ T bv) (hn : n ≤ 100000) (hv : 0 ≤ v) (hv' : v ≤ 9223372036854775807) :
    SeqStopsK Fence.wide m Tryd.prog 84 #[.pointer (some ⟨bn, 0, none⟩), .pointer (some ⟨bv, 0, none⟩)] (fun x : Bit => #[Value.int .i64 x.1]) (Fr T) (fun xs => xs = numbB v n) (fun _ => True) n w := by
  intro l J Jx W hW hJ hJx hY h0
  have lbn := World.block_lt_of_cell? w _ hbn
  have lbv := World.block_lt_of_cell? w _ hbv
  have hbnW : W.cell? ⟨bn, 0, none⟩ = some (.int .i64 n) := (hW.cell (p := ⟨bn, 0, none⟩) lbn).trans hbn
  have hbvW : W.cell? ⟨bv, 0, none⟩ = some (.int .i64 v) := (hW.cell (p := ⟨bv, 0, none⟩) lbv).trans hbv
  have lbnW := World.block_lt_of_cell? W _ hbnW
  have lbvW := World.block_lt_of_cell? W _ hbvW
  refine callsIn_of_wp Tryd.func84 rfl trivial ?_ rfl
  simp only [Tryd.ntmps84, List.size_toArray, List.length_cons, List.length_nil, Nat.reduceAdd, Nat.reduceSub, Array.replicate_succ, Array.replicate_zero, List.push_toArray, List.append_toArray, List.nil_append, List.cons_append]
  gi_wp2
  gi_loopw [4] (fun u wr => ∃ k : Nat, u = .int .i64 ((n : Int) - 1 - k) ∧ k ≤ n ∧ Aside0 (J ((numbB v n).take k) wr) ∧ Aside0 (Fr T W wr)) (fun u _ => (intOf u + 1).toNat)
  case atStart => exact ⟨0, by simp, Nat.zero_le _, ⟨by simpa using h0⟩, ⟨Fr.refl _ _⟩⟩
  case round =>
    obtain ⟨k, rfl, hk, HJ, HF⟩ := hrel
    have hb1 : wr.cell? ⟨bv, 0, none⟩ = some (.int .i64 v) := (World.cell?_of_block (HF.out.block bv lbvW hTv)).trans hbvW
    by_cases hlt : k < n
    · have i0 : (0 : Int) ≤ (n : Int) - 1 - k := by omega
      have hx := and_shift v (n - 1 - k) hv hv'
      have hnt := numbB_take v n k hlt
      obtain ⟨xb, hxb, hxe⟩ : ∃ xb : Bit, xb.1 = Go.bits BinOp.and IntKind.i64 (v / 2 ^ min (n - 1 - k) 64) 1 ∧ xb = ⟨v / 2 ^ (n - 1 - k) % 2, by omega⟩ := ⟨⟨v / 2 ^ (n - 1 - k) % 2, by omega⟩, hx.symm, rfl⟩
      rw [← hxe] at hnt
      obtain ⟨fn, tmps, assign, body, hy, hR⟩ := hY _ xb wr HJ.out (by rw [List.length_take, numbB_length]; omega)
      rw [hxb] at hy
      have HRR := Aside0.mk hR
      have HNT := Aside0.mk hnt
      clear hx hnt hR hxb hxe
      gi_wp2
      refine ⟨fun h => by simp [Fence.wide] at h, ?_⟩
      refine HRR.out.mono ?_
      rintro e W' (⟨rfl, hJ', hk'⟩ | ⟨rfl, hJx'⟩)
      · have HJ' := Aside0.mk hJ'
        have HK' := Aside0.mk hk'
        clear hJ' hk'
        gi_wp2
        go_roundw
        case rel => exact ⟨k + 1, by go_num, by omega, ⟨by rw [HNT.out]; exact HJ'.out⟩, ⟨HF.out.trans HK'.out⟩⟩
        case measure => simp [intOf]; omega
      · gi_wp2
        refine bodyPost_ret (results_none rfl _ _ _) rfl ?_
        exact ⟨⟨_, rfl⟩, .inr ⟨_, trivial, hJx'⟩⟩
    · have hk1 : k = n := by omega
      have HE : Aside0 ((numbB v n).take k = numbB v n) := ⟨by rw [List.take_of_length_le]; rw [numbB_length]; omega⟩
      have hlx : ¬ (0 : Int) ≤ (n : Int) - 1 - k := by omega
      clear hk1
      gi_wp2
      go_end0
      exact ⟨⟨_, rfl⟩, .inl (by have := HJ.out; rw [HE.out] at this; first | exact this | exact ⟨_, rfl, this⟩)⟩
/-- What a round may turn are cells. -/
theorem Fr.keepsFrom {T : Nat → Prop} {a b : World} {B : Nat} (h : Fr T a b) (hc : ∀ k, T k → ∀ o, a.heap[k]? = some o → o.isCells = true) : KeepsFrom B a b :=
  ⟨h.size, fun i o _ hi ho => by
    rw [h.block i (lt_of_block hi) (fun ht => by have := hc i ht o hi; rw [ho] at this; cases this)]
    exact hi⟩
set_option maxHeartbeats 1000000 in
set_option maxRecDepth 100000 in
theorem each_any (df : Nat) (rcv lb : Array Value) (eg : ∀ args w, (callFunc df args).run Tryd.prog w = .ok (.enter df args) w) (bn bv n : Nat) (v : Int) (T : Nat → Prop) (J : List Int → World → Prop) (w : World)
    (hbn : w.cell? ⟨bn, 0, none⟩ = some (.int .i64 n)) (hbv : w.cell? ⟨bv, 0, none⟩ = some (.int .i64 v)) (hTn : ¬ T bn) (hTv : ¬ T bv) (hT0 : ¬ T w.heap.size) (hTN : ∀ k, w.heap.size < k → T k)
    (hn : n ≤ 100000) (hv : 0 ≤ v) (hv' : v ≤ 9223372036854775807) (hJ : OwnFrom (w.heap.size + 1) J) (h0 : J [] (w.alloc (.cells #[.func (.func df) rcv lb] 105)))
    (hdo : ∀ pre b W, (b = 0 ∨ b = 1) → J pre W → pre.length < n → Fr T (w.alloc (.cells #[.func (.func df) rcv lb] 105)) W → Calls Tryd.prog df (rcv ++ #[.int .i64 b] ++ lb) W fun e W' => (∃ u, e = .returned u) ∧ J (pre ++ [b]) W' ∧ Fr T W W' ∧ KeepsFrom (w.heap.size + 1) W W') :
    Calls Tryd.prog 81 #[.func (.func 84) #[] #[.pointer (some ⟨bn, 0, none⟩), .pointer (some ⟨bv, 0, none⟩)], .func (.func df) rcv lb] w fun e w' => e = .returned (.tuple #[]) ∧ J (numb v n) w' ∧ Fr T (w.alloc (.cells #[.func (.func df) rcv lb] 105)) w' := by
  have hst := number_stops 4 bn bv n v T w hbn hbv hTn hTv hn hv hv'
  have HST := Aside0.mk hst
  have HDO := Aside0.mk hdo
  have H0 := Aside0.mk h0
  have HOF := Aside0.mk hJ
  have HTN := Aside0.mk hTN
  clear hst hbn hbv hdo h0 hJ hTN
  refine (callsIn_wide (n := 5)).1 ?_
  refine callsIn_of_wp_marks Tryd.func81 rfl trivial ?_ rfl
  simp only [Tryd.ntmps81, List.size_toArray, List.length_cons, List.length_nil, Nat.reduceAdd, Nat.reduceSub, Array.replicate_succ, Array.replicate_zero, List.push_toArray, List.append_toArray, List.nil_append, List.cons_append]
  gi_wp2
  have hsz : (w.alloc (.cells #[.func (.func df) rcv lb] 105)).heap.size = w.heap.size + 1 := Array.size_push _
  have HSZ := Aside0.mk hsz
  clear hsz
  generalize hw1 : w.alloc (.cells #[.func (.func df) rcv lb] 105) = w1 at *
  have HBX : Aside0 (w1.heap[w.heap.size]? = some (.cells #[.func (.func df) rcv lb] 105 (0, 0))) := ⟨by rw [← hw1]; exact World.alloc_heap_new w _⟩
  have HB1 : Aside0 (Below w.heap.size w w1) := ⟨by rw [← hw1]; exact below_alloc (Below.refl _ _) _⟩
  have HW1 := Aside0.mk hw1
  clear hw1
  refine wpIn_rangeFunc_ownG rfl (by omega) (gf := 84) (lb := #[.pointer (some ⟨bn, 0, none⟩), .pointer (some ⟨bv, 0, none⟩)]) rfl trivial (enters_of Tryd.func84 (by kernel_rfl) rfl)
    HST.out (fun h k => h.trans k) ?hKb HB1.out (fun _ => rfl)
    (fun pre W => J (pre.map (·.1)) W ∧ Fr T w1 W ∧ W.heap[w.heap.size]? = some (.cells #[.func (.func df) rcv lb] 105 (0, 0)))
    (fun _ _ _ => False) ?hI (fun _ _ _ _ _ hs _ _ => hs) ⟨H0.out, Fr.refl _ _, HBX.out⟩
    (fun v => { tmps := #[.func (.func 84) #[] #[.pointer (some ⟨bn, 0, none⟩), .pointer (some ⟨bv, 0, none⟩)], .func (.func df) rcv lb, undef, .pointer (some ⟨w.heap.size, 0, none⟩), .int .i64 v.1, .func (.func 84) #[] #[.pointer (some ⟨bn, 0, none⟩), .pointer (some ⟨bv, 0, none⟩)], .int .i64 v.1, undef, undef, undef], defers := [] })
    ?assign ?body ?done ?stop
  case hKb =>
    intro W l o o' hl ho _ _
    exact (Fr.refl _ _).grown (grownBy_putObj' W l o') (fun k hk e => by cases e; exact HTN.out l (by have := HSZ.out; omega))
  case hI =>
    intro s A B row hs hg hr
    have hgt : ∀ k, row = some k → w.heap.size < k := fun k e => by have := (hr k e).1; have := HSZ.out; omega
    refine ⟨HOF.out _ _ _ _ hs.1 hg (fun k e => ⟨by have := hgt k e; omega, (hr k e).2⟩), hs.2.1.grown hg (fun k _ e => HTN.out k (hgt k e)), ?_⟩
    exact (hg.block _ (lt_of_block hs.2.2) (fun e => by have := hgt _ e.symm; omega)).trans hs.2.2
  case assign =>
    intro l v W K hK
    gi_wp2
    exact hK
  case body =>
    rintro l pre v W ⟨hJ, hF, hbx⟩ hlen
    have hc := cell_of_one hbx
    have HD := Aside0.mk (HDO.out (pre.map (·.1)) v.1 W v.2 hJ (by simpa using hlen) hF)
    have HF := Aside0.mk hF
    have HX := Aside0.mk hbx
    clear hF hbx hJ
    gi_wp2
    refine ⟨trivial, ?_⟩
    have hcall := callsIn_wide (n := 2).2 HD.out
    simp only [Array.append_singleton] at hcall
    refine CallsIn.mono (show CallsIn (Fence.wide.inRound l) 2 Tryd.prog df _ W _ from hcall) ?_
    rintro e W' ⟨⟨u, rfl⟩, hJ', hF', hK'⟩
    have hbx' := blk_fr HX.out hF' hT0
    gi_wp2
    refine ⟨?_, hF', ?_, HF.out.trans hF', hbx'⟩
    · rw [HSZ.out]; exact hK'
    · rw [List.map_append]; exact hJ'
  case done =>
    rintro D ys W hD rfl ⟨hJ, hF, hbx⟩ hK
    rw [numbB_val] at hJ
    have HJ := Aside0.mk hJ
    have HF := Aside0.mk hF
    clear hJ hF hbx
    gi_wp2
    refine ⟨by simp, .inl ⟨_, _, rfl, run_takeDeferred hK, ?_⟩⟩
    refine ⟨_, results_none rfl _ _ _, rfl, HOF.out.putObj _ HJ.out (by have := HSZ.out; omega) hK rfl, ?_⟩
    rw [HW1.out]
    exact HF.out.grown (grownBy_putObj' W D _) (fun k _ e => by cases e; exact HTN.out D (by have := HSZ.out; omega))
  case stop =>
    rintro D c pre W _ _ h _
    exact h.elim
end Go.Proofs.YthlmnnjbpikijaaDoor.P
end
section
namespace Go.Proofs.YthlmnnjbpikijaaDoor.P
open Go.RowKit Go.Shelf Go.Proofs.YthlmnnjbpikijaaDoor.Bits Go.Proofs.YthlmnnjbpikijaaDoorW.PrintWords Go.Proofs.YthlmnnjbpikijaaDoorW.PrintLast Go.Proofs.YthlmnnjbpikijaaDoorW.PrintMore
set_option linter.unusedVariables false
set_option linter.unusedSimpArgs false
attribute [local go_sem ↓] Go.wp_at_zero Go.wp_at_succ
abbrev intBox (x : Int) : Obj := .cells #[.int .i64 x] 3 (0, 0)
/-- The iterator that bits.number gives. -/
abbrev seqOf (bn bv : Nat) : Value := .func (.func 84) #[] #[.pointer (some ⟨bn, 0, none⟩), .pointer (some ⟨bv, 0, none⟩)]
theorem number_any (v n : Int) (w : World) :
    Calls Tryd.prog 82 #[.int .i64 v, .int .i64 n] w fun e w' => e = .returned (seqOf (w.heap.size + 1) w.heap.size) ∧ w' = (w.alloc (intBox v)).alloc (intBox n) := by
  go_enter Tryd.func82, Tryd.ntmps82
  go_wp2
  go_ret
  simp
/-- A step of book-keeping. -/
theorem WrTo.own {w W W' : World} {S : Nat → Prop} {p : Nat} {L : List Int} {row : Option Nat} (h : WrTo w S p L W) (hp : p < w.heap.size) (hg : W.grownBy W' row) (hr : ∀ r, row = some r → w.heap.size ≤ r ∧ ∃ o : Obj, W.heap[r]? = some o ∧ o.isCells = false) : WrTo w S p L W' := by
  obtain ⟨S1, h1, hs1, f1⟩ := h
  have hF : Fr (fun k => row = some k) W W' := (Fr.refl _ _).grown hg (fun k _ e => e)
  refine ⟨S1, h1.fr hF (fun e => ?_) (fun k hk e => ?_), hs1, f1.next hF (fun k hk e => by have := (hr k e).1; omega)⟩
  · have := (hr p e).1; omega
  · obtain ⟨_, o, ho, hc⟩ := hr k e
    obtain ⟨cells, hcs⟩ := h1.typed k hk
    rw [ho] at hcs
    cases hcs
    cases hc
theorem each_add (S : Nat → Prop) (p bn bv n : Nat) (v : Int) (L : List Int) (w : World) (hW : Wr w S p L) (hbn : w.heap[bn]? = some (intBox n)) (hbv : w.heap[bv]? = some (intBox v))
    (hn : n ≤ 100000) (hv : 0 ≤ v) (hv' : v ≤ 9223372036854775807) (hL : L.length + n ≤ 4194304) :
    Calls Tryd.prog 81 #[seqOf bn bv, .func (.func 72) #[.pointer (some ⟨p, 0, none⟩)] #[]] w fun e w' => e = .returned (.tuple #[]) ∧ WrTo w S p (L ++ numb v n) w' := by
  have hb1 : Below w.heap.size w (w.alloc (.cells #[.func (.func 72) #[.pointer (some ⟨p, 0, none⟩)] #[]] 105)) := below_alloc (Below.refl _ _) _
  have hs1 : (w.alloc (.cells #[.func (.func 72) #[.pointer (some ⟨p, 0, none⟩)] #[]] 105)).heap.size = w.heap.size + 1 := Array.size_push _
  have hp := hW.p_lt
  have hne : ∀ b x, w.heap[b]? = some (intBox x) → ¬ (b = p ∨ S b ∨ w.heap.size < b) := by
    rintro b x hb (rfl | h | h)
    · obtain ⟨v, hk, _⟩ := hW.blk
      rw [hb] at hk; cases hk
    · obtain ⟨cells, hk⟩ := hW.typed b h
      rw [hb] at hk; cases hk
    · have := lt_of_block hb; omega
  refine (each_any 72 #[.pointer (some ⟨p, 0, none⟩)] #[] (enters_of Tryd.func72 (by kernel_rfl) rfl) bn bv n v (fun k => k = p ∨ S k ∨ w.heap.size < k)
    (fun pre W => WrTo (w.alloc (.cells #[.func (.func 72) #[.pointer (some ⟨p, 0, none⟩)] #[]] 105)) S p (L ++ pre) W) w (cell_of_one hbn) (cell_of_one hbv) (hne _ _ hbn) (hne _ _ hbv) ?_ ?_ hn hv hv' ?_ ?_ ?_).mono ?_
  · rintro (h | h | h)
    · omega
    · have := hW.lt _ h; omega
    · omega
  · exact fun k hk => .inr (.inr hk)
  · intro s W W' row h hg hr
    exact h.own (by omega) hg (fun r e => ⟨by have := (hr r e).1; omega, (hr r e).2⟩)
  · rw [List.append_nil]
    exact (hW.fr (Fr.below hb1 (fun _ => False)) (fun h => h) (fun _ _ h => h)).to (Fr.refl (fun _ => False) _) (fun h => h) (fun _ _ h => h) (fun _ _ h => h.elim)
  · intro pre b W hb hJ hlen hF
    obtain ⟨S1, h1, hs, f1⟩ := hJ
    refine (add_any S1 p (L ++ pre) b W h1 hb (by rw [List.length_append]; omega)).mono ?_
    rintro e W' ⟨rfl, h2⟩
    rw [List.append_assoc] at h2
    have h3 : WrTo (w.alloc (.cells #[.func (.func 72) #[.pointer (some ⟨p, 0, none⟩)] #[]] 105)) S p (L ++ (pre ++ [b])) W' := by
      obtain ⟨S2, k2, hs2, f2⟩ := h2
      refine ⟨S2, k2, fun i hi => ?_, f1.next f2 (fun i hi hT => ?_)⟩
      · rcases hs2 i hi with q | q
        · exact hs i q
        · exact .inr (Nat.le_trans f1.size q)
      · rcases hT with q | q
        · exact .inl q
        · rcases hs i q with q | q
          · exact .inr q
          · omega
    obtain ⟨S2, k2, hs2, f2⟩ := h2
    refine ⟨⟨_, rfl⟩, h3, f2.mono (fun k _ hk => ?_), f2.keepsFrom (fun k hk o ho => ?_)⟩
    · rcases hk with q | q
      · exact .inl q
      · rcases hs k q with q | q
        · exact .inr (.inl q)
        · exact .inr (.inr (by omega))
    · rcases hk with rfl | q
      · obtain ⟨v, hk, _⟩ := h1.blk
        rw [ho] at hk; cases hk; rfl
      · obtain ⟨cells, hk⟩ := h1.typed k q
        rw [ho] at hk; cases hk; rfl
  · rintro e w' ⟨rfl, ⟨S1, h1, hs, f1⟩, _⟩
    refine ⟨rfl, S1, h1, fun k hk => ?_, (Fr.below hb1 _).trans f1⟩
    rcases hs k hk with q | q
    · exact .inl q
    · exact .inr (by omega)
end Go.Proofs.YthlmnnjbpikijaaDoor.P
end
section
namespace Go.Proofs.YthlmnnjbpikijaaDoor.P
open Go.RowKit Go.Shelf Go.Proofs.YthlmnnjbpikijaaDoor.Bits Go.Proofs.YthlmnnjbpikijaaDoorW.PrintWords Go.Proofs.YthlmnnjbpikijaaDoorW.PrintLast Go.Proofs.YthlmnnjbpikijaaDoorW.PrintMore
set_option linter.unusedVariables false
set_option linter.unusedSimpArgs false
attribute [local go_sem ↓] Go.wp_at_zero Go.wp_at_succ
/-- Numbers and their widths, as fields in memory. -/
def fldCells (fs : List (Int × Nat)) : Array Value := (fs.flatMap fun f => [Value.int .i64 f.1, .int .i64 (f.2 : Int)]).toArray
def Flds (w : World) (b : Nat) (fs : List (Int × Nat)) : Prop := w.heap[b]? = some (.cells (fldCells fs) 104 (0, 0))
def fldBits (fs : List (Int × Nat)) : List Int := fs.flatMap fun f => numb f.1 f.2
def widths (fs : List (Int × Nat)) : Nat := (fs.map (·.2)).sum
theorem fldBits_length (fs : List (Int × Nat)) : (fldBits fs).length = widths fs := by
  induction fs with
  | nil => rfl
  | cons f fs ih => simp only [fldBits, widths, List.flatMap_cons, List.length_append, numb_length, List.map_cons, List.sum_cons] at ih ⊢; rw [ih]
theorem fldCells_get (fs : List (Int × Nat)) (i : Nat) (h : i < fs.length) : (fldCells fs)[2 * i]? = some (.int .i64 fs[i].1) ∧ (fldCells fs)[2 * i + 1]? = some (.int .i64 (fs[i].2 : Int)) := by
  unfold fldCells
  rw [List.getElem?_toArray, List.getElem?_toArray]
  induction fs generalizing i with
  | nil => simp at h
  | cons f fs ih =>
    cases i with
    | zero => simp
    | succ i =>
      have := ih i (by simpa using h)
      rw [List.flatMap_cons, show 2 * (i + 1) = (2 * i) + 1 + 1 by omega]
      simpa using this
theorem widths_take (fs : List (Int × Nat)) (i : Nat) (h : i < fs.length) : widths (fs.take (i + 1)) = widths (fs.take i) + fs[i].2 := by
  unfold widths
  rw [List.take_succ_eq_append_getElem h, List.map_append, List.sum_append]
  simp
theorem fldBits_take (fs : List (Int × Nat)) (i : Nat) (h : i < fs.length) : fldBits (fs.take (i + 1)) = fldBits (fs.take i) ++ numb fs[i].1 fs[i].2 := by
  unfold fldBits
  rw [List.take_succ_eq_append_getElem h, List.flatMap_append]
  simp
theorem widths_take_le (fs : List (Int × Nat)) (i : Nat) : widths (fs.take i) ≤ widths fs := by
  unfold widths
  have := List.sum_append (l₁ := (fs.take i).map (·.2)) (l₂ := (fs.drop i).map (·.2))
  rw [← List.map_append, List.take_append_drop] at this
  omega
/-- What a writer with the bits L has when bits have been added, and what is said. -/
def putE (L M : List Int) : Int := if 1048576 < L.length + M.length then 2 else 0
def putL (L M : List Int) : List Int := if 1048576 < L.length + M.length then L else L ++ M
theorem WrTo.glue {w W1 W2 : World} {S S1 : Nat → Prop} {p : Nat} {L2 : List Int} (hs1 : ∀ k, S1 k → S k ∨ w.heap.size ≤ k) (f1 : Fr (fun k => k = p ∨ S k) w W1) (h2 : WrTo W1 S1 p L2 W2) : WrTo w S p L2 W2 := by
  obtain ⟨S2, k2, hs2, f2⟩ := h2
  refine ⟨S2, k2, fun i hi => ?_, f1.next f2 (fun i hi hT => ?_)⟩
  · rcases hs2 i hi with q | q
    · exact hs1 i q
    · exact .inr (Nat.le_trans f1.size q)
  · rcases hT with q | q
    · exact .inl q
    · rcases hs1 i q with q | q
      · exact .inr q
      · omega
theorem blk_alloc' {w : World} {k : Nat} {q : Obj} (h : w.heap[k]? = some q) (o : Obj) : (w.alloc o).heap[k]? = some q := (Below.heap_alloc w o k (lt_of_block h)).trans h
theorem Wr.below {w w' : World} {S : Nat → Prop} {p : Nat} {L : List Int} (h : Wr w S p L) (hb : Below w.heap.size w w') : Wr w' S p L := h.fr (Fr.below hb (fun _ => False)) (fun h => h) (fun _ _ h => h)
theorem Wr.wrTo {w w' : World} {S : Nat → Prop} {p : Nat} {L : List Int} (h : Wr w S p L) (hb : Below w.heap.size w w') : WrTo w S p L w' := h.to (Fr.below hb (fun _ => False)) (fun h => h) (fun _ _ h => h) (fun _ _ h => h.elim)
theorem WrTo.flds {w W : World} {S : Nat → Prop} {p b : Nat} {L L0 : List Int} {fs : List (Int × Nat)} (h : WrTo w S p L W) (h0 : Wr w S p L0) (hF : Flds w b fs) : Flds W b fs := by
  obtain ⟨S1, _, _, f1⟩ := h
  refine blk_fr hF f1 ?_
  rintro (rfl | q)
  · obtain ⟨v, hk, _⟩ := h0.blk
    unfold Flds at hF; exact absurd rfl (blk_ne hF hk (by decide))
  · obtain ⟨cells, hk⟩ := h0.typed b q
    unfold Flds at hF; exact absurd rfl (blk_ne hF hk (by decide))
set_option maxHeartbeats 2000000 in
set_option maxRecDepth 100000 in
theorem put_any (S : Nat → Prop) (p b : Nat) (fs : List (Int × Nat)) (L : List Int) (w : World) (hW : Wr w S p L) (hF : Flds w b fs) (hn : fs.length ≤ 1000) (hfs : ∀ f ∈ fs, 0 ≤ f.1 ∧ f.1 ≤ 9223372036854775807 ∧ f.2 ≤ 100000) (hL : L.length ≤ 1048576) (hws : widths fs ≤ 1000000) :
    Calls Tryd.prog 71 #[.pointer (some ⟨p, 0, none⟩), .slice (some ⟨b, 0, none⟩) fs.length fs.length] w fun e w' => e = .returned (.int .i64 (putE L (fldBits fs))) ∧ WrTo w S p (putL L (fldBits fs)) w' := by
  have hlen := fldBits_length fs
  have HE : Aside0 (putE L (fldBits fs) = if 1048576 < L.length + widths fs then 2 else 0) := ⟨by unfold putE; rw [hlen]⟩
  have HL : Aside0 (putL L (fldBits fs) = if 1048576 < L.length + widths fs then L else L ++ fldBits fs) := ⟨by unfold putL; rw [hlen]⟩
  have HW := Aside0.mk hW
  have HF := Aside0.mk hF
  have HFS := Aside0.mk hfs
  have lb := lt_of_block hF
  clear hW hF hfs hlen
  go_enter Tryd.func71, Tryd.ntmps71
  go_wp2_with fail
  go_loopw [5, 12] (fun u i wr => ∃ k : Nat, k ≤ fs.length ∧ i = .int .i64 (k : Int) ∧ u = .int .i64 (widths (fs.take k) : Int) ∧ Aside0 (Below w.heap.size w wr)) (fun _ i _ => fs.length - (intOf i).toNat)
  case atStart => exact ⟨0, Nat.zero_le _, rfl, rfl, ⟨Below.refl _ _⟩⟩
  case round =>
    obtain ⟨k, hk, rfl, rfl, HB⟩ := hrel
    by_cases hlt : k < fs.length
    · have hc := fldCells_get fs k hlt
      have hFr := (HB.out.block b lb).trans HF.out
      have hc1 : wr.cell? ⟨b, k * 2, none⟩ = some (.int .i64 fs[k].1) := by rw [cell_of_row _ _ _ _ _ _ hFr, Nat.mul_comm]; exact hc.1
      have hc2 : wr.cell? ⟨b, k * 2 + 1, none⟩ = some (.int .i64 (fs[k].2 : Int)) := by rw [cell_of_row _ _ _ _ _ _ hFr, Nat.mul_comm]; exact hc.2
      have HWT := Aside0.mk (widths_take fs k hlt)
      have hw1 := widths_take_le fs (k + 1)
      have hw2 : widths (fs.take (k + 1)) = widths (fs.take k) + fs[k].2 := HWT.out
      have hw3 : (widths (fs.take k) : Int) + (fs[k].2 : Int) ≤ 1000000 := by omega
      clear hc hFr hw1 hw2
      go_wp2_with fail
      go_roundw
      case rel => exact ⟨k + 1, by omega, by go_num, by rw [HWT.out]; go_num, ⟨by (repeat (first | with_reducible exact Below.refl _ _ | (refine Aside0.out (p := Below _ _ _) ?_; assumption) | refine below_drew ?_ | refine below_alloc ?_ _ | (refine below_step ?_ (Aside0.out (p := Below _ _ _) (by assumption)))))⟩⟩
      case measure => simp [intOf]; omega
    · obtain rfl : k = fs.length := by omega
      rw [List.take_length]
      have hWr := HW.out.below HB.out
      obtain ⟨v, hblk, _⟩ := hWr.blk
      have c1 : wr.cell? ⟨p, 1, none⟩ = some (.int .i64 (L.length : Int)) := by rw [cell_of_row _ _ _ _ _ _ hblk]; rfl
      have HWr := Aside0.mk hWr
      clear hblk hWr
      by_cases ho : 1048576 < L.length + widths fs
      · have q1 : decide ((1048576 : Int) < (L.length : Int) + (widths fs : Int)) = true := by simp; omega
        go_wp2_with fail
        go_ret
        refine ⟨by rw [HE.out, if_pos ho]; rfl, ?_⟩
        rw [HL.out, if_pos ho]
        exact HW.out.wrTo HB.out
      · have q1 : decide ((1048576 : Int) < (L.length : Int) + (widths fs : Int)) = false := by simp; omega
        rw [if_neg ho] at HE HL
        go_wp2_with fail
        go_loopw [30] (fun i wr => ∃ k : Nat, k ≤ fs.length ∧ i = .int .i64 (k : Int) ∧ Aside0 (WrTo w S p (L ++ fldBits (fs.take k)) wr)) (fun i _ => fs.length - (intOf i).toNat)
        case atStart => exact ⟨0, Nat.zero_le _, rfl, ⟨by rw [List.take_zero]; show WrTo w S p (L ++ []) _; rw [List.append_nil]; exact HW.out.wrTo HB.out⟩⟩
        case round =>
          obtain ⟨k, hk, rfl, HT⟩ := hrel
          clear c1
          by_cases hlt : k < fs.length
          · have hc := fldCells_get fs k hlt
            have hFr := HT.out.flds HW.out HF.out
            unfold Flds at hFr
            have hc1 : wr.cell? ⟨b, k * 2, none⟩ = some (.int .i64 fs[k].1) := by rw [cell_of_row _ _ _ _ _ _ hFr, Nat.mul_comm]; exact hc.1
            have hc2 : wr.cell? ⟨b, k * 2 + 1, none⟩ = some (.int .i64 (fs[k].2 : Int)) := by rw [cell_of_row _ _ _ _ _ _ hFr, Nat.mul_comm]; exact hc.2
            have HBT := Aside0.mk (fldBits_take fs k hlt)
            have HWT := Aside0.mk (widths_take fs k hlt)
            have HW1 := Aside0.mk (widths_take_le fs (k + 1))
            have hfk := HFS.out fs[k] (List.getElem_mem hlt)
            obtain ⟨S1, h1, hs1, f1⟩ := HT.out
            have H1 := Aside0.mk h1
            have HS1 := Aside0.mk hs1
            have F1 := Aside0.mk f1
            clear hc hFr h1 hs1 f1
            go_wp2_with (first
              | (go_at_call 82; refine (number_any _ _ _).mono ?_; rintro e w1 ⟨rfl, rfl⟩)
              | (go_at_call 81; (refine (each_add S1 p _ _ fs[k].2 fs[k].1 (L ++ fldBits (fs.take k)) _ (H1.out.below (by (repeat (first | with_reducible exact Below.refl _ _ | (refine Aside0.out (p := Below _ _ _) ?_; assumption) | refine below_drew ?_ | refine below_alloc ?_ _ | (refine below_step ?_ (Aside0.out (p := Below _ _ _) (by assumption))))))) ?gn ?gv ?gw ?g0 ?g1 ?gl).mono ?_; (case gn => (have := World.alloc_heap_new ((wr.alloc (.cells #[.int .i64 fs[k].1, .int .i64 (fs[k].2 : Int)] 104)).alloc (intBox fs[k].1)) (intBox (fs[k].2 : Int)); simpa using this)); (case gv => (have h1 := World.alloc_heap_new (wr.alloc (.cells #[.int .i64 fs[k].1, .int .i64 (fs[k].2 : Int)] 104)) (intBox fs[k].1); have h2 := blk_alloc' h1 (intBox (fs[k].2 : Int)); simpa using h2)); (case gw => exact hfk.2.2); (case g0 => exact hfk.1); (case g1 => exact hfk.2.1); (case gl => (rw [List.length_append, fldBits_length]; have := widths_take_le fs k; omega)); rintro e w2 ⟨rfl, h2⟩; have H2 := Aside0.mk h2; clear h2)))
            go_roundw
            case rel =>
              refine ⟨k + 1, by omega, by go_num, ⟨?_⟩⟩
              have h2 := H2.out
              rw [List.append_assoc, ← HBT.out] at h2
              exact WrTo.glue HS1.out (F1.out.trans (Fr.below (by (repeat (first | with_reducible exact Below.refl _ _ | (refine Aside0.out (p := Below _ _ _) ?_; assumption) | refine below_drew ?_ | refine below_alloc ?_ _ | (refine below_step ?_ (Aside0.out (p := Below _ _ _) (by assumption)))))) _)) h2
            case measure => simp [intOf]; omega
          · obtain rfl : k = fs.length := by omega
            go_wp2_with fail
            go_ret
            refine ⟨by rw [HE.out]; rfl, ?_⟩
            rw [HL.out]
            have := HT.out
            rw [List.take_length] at this
            exact this
end Go.Proofs.YthlmnnjbpikijaaDoor.P
end
section
namespace Go.Proofs.YthlmnnjbpikijaaDoor.P
open Go.RowKit Go.Shelf Go.Proofs.YthlmnnjbpikijaaDoor.Bits Go.Proofs.YthlmnnjbpikijaaDoorW.PrintWords Go.Proofs.YthlmnnjbpikijaaDoorW.PrintLast Go.Proofs.YthlmnnjbpikijaaDoorW.PrintMore
set_option linter.unusedVariables false
set_option linter.unusedSimpArgs false
attribute [local go_sem ↓] Go.wp_at_zero Go.wp_at_succ
def wput (L M : List Int) : Int × List Int := (putE L M, putL L M)
def wPut (L : List Int) (v n : Int) : Int × List Int := if n < 0 ∨ 32 < n ∨ v < 0 ∨ 2 ^ n.toNat ≤ v then (1, L) else wput L (numb v n.toNat)
theorem pow_le32 {m : Nat} (h : m ≤ 32) : (1 : Int) ≤ 2 ^ m ∧ (2 : Int) ^ m ≤ 4294967296 := by
  have h1 := Nat.pow_le_pow_right (show 0 < 2 by omega) h
  have h2 : 1 ≤ 2 ^ m := Nat.one_le_two_pow
  have e : ((2 ^ m : Nat) : Int) = (2 : Int) ^ m := Int.natCast_pow 2 m
  have e32 : (2 : Nat) ^ 32 = 4294967296 := rfl
  omega
theorem shl1 (m : Nat) (h : m ≤ 32) : wrap64 (2 ^ min m 64) = 2 ^ m := by
  have := pow_le32 h
  rw [Nat.min_eq_left (by omega), wrap64_id (by omega) (by omega)]
set_option maxHeartbeats 1000000 in
set_option maxRecDepth 100000 in
theorem Put_any (S : Nat → Prop) (p : Nat) (L : List Int) (v n : Int) (w : World) (hW : Wr w S p L) (hL : L.length ≤ 1048576) :
    Calls Tryd.prog 62 #[.pointer (some ⟨p, 0, none⟩), .int .i64 v, .int .i64 n] w fun e w' => e = .returned (.int .i64 (wPut L v n).1) ∧ WrTo w S p (wPut L v n).2 w' := by
  have HW := Aside0.mk hW
  have hp := hW.p_lt
  clear hW
  have no : n < 0 ∨ 32 < n ∨ v < 0 ∨ 2 ^ n.toNat ≤ v → Aside0 (wPut L v n = (1, L)) := fun h => ⟨by unfold wPut; rw [if_pos h]⟩
  by_cases h1 : n < 0
  · have HN := no (.inl h1)
    have d1 : decide (n < 0) = true := by simpa using h1
    clear no
    go_enter Tryd.func62, Tryd.ntmps62
    go_wp2_with fail
    go_ret
    rw [HN.out]
    exact ⟨rfl, HW.out.wrTo (Below.refl _ _)⟩
  by_cases h2 : 32 < n
  · have HN := no (.inr (.inl h2))
    have d1 : decide (n < 0) = false := by simpa using h1
    have d2 : decide (32 < n) = true := by simpa using h2
    clear no
    go_enter Tryd.func62, Tryd.ntmps62
    go_wp2_with fail
    go_ret
    rw [HN.out]
    exact ⟨rfl, HW.out.wrTo (Below.refl _ _)⟩
  by_cases h3 : v < 0
  · have HN := no (.inr (.inr (.inl h3)))
    have d1 : decide (n < 0) = false := by simpa using h1
    have d2 : decide (32 < n) = false := by simpa using h2
    have d3 : decide (v < 0) = true := by simpa using h3
    clear no
    go_enter Tryd.func62, Tryd.ntmps62
    go_wp2_with fail
    go_ret
    rw [HN.out]
    exact ⟨rfl, HW.out.wrTo (Below.refl _ _)⟩
  obtain ⟨m, rfl⟩ : ∃ m : Nat, n = m := ⟨n.toNat, by omega⟩
  have d1 : decide ((m : Int) < 0) = false := by simp
  have d2 : decide (32 < (m : Int)) = false := by simpa using h2
  have d3 : decide (v < 0) = false := by simpa using h3
  have hp2 := pow_le32 (m := m) (by omega)
  have hm : m ≤ 32 := by omega
  clear h1 h2
  have hs := shl1 m hm
  by_cases h4 : 2 ^ m ≤ v
  · have HN := no (.inr (.inr (.inr (by simpa using h4))))
    have d4 : decide (wrap64 (2 ^ min m 64) ≤ v) = true := by rw [hs]; simpa using h4
    clear no hs
    go_enter Tryd.func62, Tryd.ntmps62
    go_wp2_with fail
    go_ret
    rw [HN.out]
    exact ⟨rfl, HW.out.wrTo (Below.refl _ _)⟩
  · have HN : Aside0 (wPut L v m = wput L (fldBits [(v, m)])) := ⟨by unfold wPut; rw [if_neg (by simp only [Int.toNat_natCast]; omega)]; simp [fldBits]⟩
    have d4 : decide (wrap64 (2 ^ min m 64) ≤ v) = false := by rw [hs]; simpa using h4
    clear no hs
    go_enter Tryd.func62, Tryd.ntmps62
    go_wp2_with (go_at_call 71; (refine (put_any S p _ [(v, m)] L _ (HW.out.below (by (repeat (first | with_reducible exact Below.refl _ _ | (refine Aside0.out (p := Below _ _ _) ?_; assumption) | refine below_drew ?_ | refine below_alloc ?_ _ | (refine below_step ?_ (Aside0.out (p := Below _ _ _) (by assumption))))))) ?gF (by simp) ?gf hL ?gw).mono ?_; (case gF => exact World.alloc_heap_new w _); (case gf => (simp; omega)); (case gw => (simp [widths]; omega)); rintro e w2 ⟨rfl, h2⟩; have H2 := Aside0.mk h2; clear h2))
    go_ret
    rw [HN.out]
    exact ⟨rfl, WrTo.glue (fun k hk => .inl hk) (Fr.below (by (repeat (first | with_reducible exact Below.refl _ _ | (refine Aside0.out (p := Below _ _ _) ?_; assumption) | refine below_drew ?_ | refine below_alloc ?_ _ | (refine below_step ?_ (Aside0.out (p := Below _ _ _) (by assumption)))))) _) H2.out⟩
end Go.Proofs.YthlmnnjbpikijaaDoor.P
end
section
namespace Go.Proofs.YthlmnnjbpikijaaDoor.P
open Go.RowKit Go.Shelf Go.Proofs.YthlmnnjbpikijaaDoor.Bits Go.Proofs.YthlmnnjbpikijaaDoorW.PrintWords Go.Proofs.YthlmnnjbpikijaaDoorW.PrintLast Go.Proofs.YthlmnnjbpikijaaDoorW.PrintMore
set_option linter.unusedVariables false
set_option linter.unusedSimpArgs false
attribute [local go_sem ↓] Go.wp_at_zero Go.wp_at_succ
theorem C_fr {k : IntKind} {w W : World} {T : Nat → Prop} {A : Option Addr} {n : Nat} {xs : List Int} (h : Kd.C (Kd.int k) w A n xs) (hf : Fr T w W) (hd : ∀ ad, A = some ad → 0 < n → ¬ T ad.block) : Kd.C (Kd.int k) W A n xs := by
  have h' := Kd.reads_of_C (enc := Value.int k) (d := (0 : Int)) (h1 := fun _ => rfl) h
  refine Kd.C_of_reads (enc := Value.int k) (d := (0 : Int)) (h1 := fun _ => rfl) ⟨h'.1, h'.2.1, fun hn => ?_⟩
  obtain ⟨ad, e, hc⟩ := h'.2.2 hn
  refine ⟨ad, e, fun j hj => ?_⟩
  have hcj := hc j hj
  have hlt := World.block_lt_of_cell? w _ hcj
  exact (World.cell?_of_block (hf.block _ hlt (by rw [add_block]; exact hd ad e hn))).trans hcj
theorem Wr.cell1 {w : World} {S : Nat → Prop} {p : Nat} {L : List Int} (h : Wr w S p L) : w.cell? ⟨p, 1, none⟩ = some (.int .i64 (L.length : Int)) := by
  obtain ⟨v, hb, _⟩ := h.blk
  rw [cell_of_row _ _ _ _ _ _ hb]; rfl
def wAppend (L B : List Int) (n : Int) : Int × List Int := if n < 0 ∨ 8 * (B.length : Int) < n then (1, L) else wput L (ofB B n.toNat)
set_option maxHeartbeats 1000000 in
set_option maxRecDepth 100000 in
theorem Append_any (S : Nat → Prop) (p : Nat) (L : List Int) (A : Option Addr) (c : Nat) (B : List Int) (n : Int) (w : World) (hW : Wr w S p L) (hL : L.length ≤ 1048576) (hC : Kd.C (Kd.int .u8) w A B.length B) (hB : is8 B) (hBl : B.length ≤ 1000000000) (hA : ∀ ad, A = some ad → 0 < B.length → ¬ (ad.block = p ∨ S ad.block)) :
    Calls Tryd.prog 63 #[.pointer (some ⟨p, 0, none⟩), .slice A B.length c, .int .i64 n] w fun e w' => e = .returned (.int .i64 (wAppend L B n).1) ∧ WrTo w S p (wAppend L B n).2 w' := by
  have HW := Aside0.mk hW
  have HC := Aside0.mk hC
  have H8 := Aside0.mk hB
  have HA := Aside0.mk hA
  have hp := hW.p_lt
  have c1 := hW.cell1
  clear hW hC hB hA
  have no : n < 0 ∨ 8 * (B.length : Int) < n → Aside0 (wAppend L B n = (1, L)) := fun h => ⟨by unfold wAppend; rw [if_pos h]⟩
  by_cases h1 : n < 0
  · have HN := no (.inl h1)
    have d1 : decide (n < 0) = true := by simpa using h1
    clear no
    go_enter Tryd.func63, Tryd.ntmps63
    go_wp2_with fail
    go_ret
    rw [HN.out]
    exact ⟨rfl, HW.out.wrTo (Below.refl _ _)⟩
  obtain ⟨m, rfl⟩ : ∃ m : Nat, n = m := ⟨n.toNat, by omega⟩
  have d1 : decide ((m : Int) < 0) = false := by simp
  by_cases h2 : 8 * (B.length : Int) < m
  · have HN := no (.inr h2)
    have d2 : decide (8 * (B.length : Int) < (m : Int)) = true := by simpa using h2
    clear no
    go_enter Tryd.func63, Tryd.ntmps63
    go_wp2_with fail
    go_ret
    rw [HN.out]
    exact ⟨rfl, HW.out.wrTo (Below.refl _ _)⟩
  have d2 : decide (8 * (B.length : Int) < (m : Int)) = false := by simpa using h2
  have HN : Aside0 (wAppend L B m = wput L (ofB B m)) := ⟨by unfold wAppend; rw [if_neg (by omega)]; simp⟩
  clear no
  by_cases ho : 1048576 < L.length + m
  · have q1 : decide ((1048576 : Int) < (L.length : Int) + (m : Int)) = true := by simp; omega
    go_enter Tryd.func63, Tryd.ntmps63
    go_wp2_with fail
    go_ret
    rw [HN.out]
    unfold wput putE putL
    rw [ofB_length, if_pos ho, if_pos ho]
    exact ⟨rfl, HW.out.wrTo (Below.refl _ _)⟩
  · have q1 : decide ((1048576 : Int) < (L.length : Int) + (m : Int)) = false := by simp; omega
    go_enter Tryd.func63, Tryd.ntmps63
    go_wp2_with fail
    go_loopw [31] (fun i wr => ∃ k : Nat, k ≤ m ∧ i = .int .i64 (k : Int) ∧ Aside0 (WrTo w S p (L ++ ofB B k) wr)) (fun i _ => m - (intOf i).toNat)
    case atStart => exact ⟨0, Nat.zero_le _, rfl, ⟨by show WrTo w S p (L ++ []) _; rw [List.append_nil]; exact HW.out.wrTo (Below.refl _ _)⟩⟩
    case round =>
      obtain ⟨k, hk, rfl, HT⟩ := hrel
      clear c1 q1 d1 d2
      by_cases hlt : k < m
      · obtain ⟨S1, h1, hs1, f1⟩ := HT.out
        have hCr := C_fr HC.out f1 HA.out
        have H1 := Aside0.mk h1
        have HS1 := Aside0.mk hs1
        have F1 := Aside0.mk f1
        have HCr := Aside0.mk hCr
        clear h1 hs1 f1 hCr
        go_wp2_with (first
          | (go_at_call 73; refine (bit_any A B.length c B k wr HCr.out (by omega) H8.out (by omega)).mono ?_; rintro e w1 ⟨rfl, rfl⟩)
          | (go_at_call 72; (refine (add_any S1 p (L ++ ofB B k) (bitAt B k) _ H1.out (bitAt_01 B k) ?gl).mono ?_; (case gl => (rw [List.length_append, ofB_length]; omega)); rintro e w2 ⟨rfl, h2⟩; have H2 := Aside0.mk h2; clear h2)))
        go_roundw
        case rel =>
          refine ⟨k + 1, by omega, by go_num, ⟨?_⟩⟩
          have h2 := H2.out
          rw [List.append_assoc, ← ofB_succ] at h2
          exact WrTo.glue HS1.out F1.out h2
        case measure => simp [intOf]; omega
      · obtain rfl : k = m := by omega
        go_wp2_with fail
        go_ret
        rw [HN.out]
        unfold wput putE putL
        rw [ofB_length, if_neg ho, if_neg ho]
        exact ⟨rfl, HT.out⟩
end Go.Proofs.YthlmnnjbpikijaaDoor.P
end
