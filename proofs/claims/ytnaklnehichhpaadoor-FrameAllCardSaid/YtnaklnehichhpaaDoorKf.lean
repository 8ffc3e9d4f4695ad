/- The contract of frame.Write. -/
import Derived.Test.YtnaklnehichhpaaDoorKe
import Derived.Test.YtnaklnehichhpaaDoorBl
import Derived.Test.YtnaklnehichhpaaDoorBn
import Derived.Laws.EntriesVeiled
namespace Go.Proofs.YtnaklnehichhpaaDoor.P
open Go.RowKit Go.Shelf Go.Proofs.YtnaklnehichhpaaDoor.Bits Go.Proofs.YtnaklnehichhpaaDoorW.PrintWords Go.Proofs.YtnaklnehichhpaaDoorW.PrintLast Go.Proofs.YtnaklnehichhpaaDoorW.PrintMore
set_option linter.unusedVariables false
set_option linter.unusedSimpArgs false

theorem wput_le (L M : List Int) (h : L.length ≤ 1048576) : (wput L M).2.length ≤ 1048576 := by
  unfold wput putL
  dsimp only
  split
  · exact h
  · rw [List.length_append]; omega
theorem wPut_le (L : List Int) (v n : Int) (h : L.length ≤ 1048576) : (wPut L v n).2.length ≤ 1048576 := by
  unfold wPut; split
  · exact h
  · exact wput_le _ _ h
theorem wPut_ok (L : List Int) (v : Int) (n : Nat) (hn : n ≤ 32) (h : 0 ≤ v ∧ v < 2 ^ n) (hl : L.length + n ≤ 1048576) : wPut L v n = (0, L ++ numb v n) := by
  unfold wPut
  rw [Int.toNat_natCast, if_neg (by omega)]
  unfold wput putE putL
  rw [numb_length, if_neg (by omega), if_neg (by omega)]
/-- What fields leave in a writer. -/
def putAll (l : List (Int × Nat)) : List Int := l.foldl (fun L f => (wPut L f.1 (f.2 : Int)).2) []
theorem putAll_snoc (l : List (Int × Nat)) (f : Int × Nat) : putAll (l ++ [f]) = (wPut (putAll l) f.1 (f.2 : Int)).2 := by unfold putAll; rw [List.foldl_append]; rfl
theorem putAll_le : ∀ l, (putAll l).length ≤ 1048576 := by
  have : ∀ (l : List (Int × Nat)) (L : List Int), L.length ≤ 1048576 → (l.foldl (fun L f => (wPut L f.1 (f.2 : Int)).2) L).length ≤ 1048576 := by
    intro l
    induction l with
    | nil => intro L h; exact h
    | cons f l ih => intro L h; exact ih _ (wPut_le _ _ _ h)
  exact fun l => this l [] (by simp)
theorem putAll_ok : ∀ (l : List (Int × Nat)) (L : List Int), (∀ f ∈ l, f.2 ≤ 32 ∧ 0 ≤ f.1 ∧ f.1 < 2 ^ f.2) → L.length + widths l ≤ 1048576 → l.foldl (fun L f => (wPut L f.1 (f.2 : Int)).2) L = L ++ fldBits l
  | [], L, _, _ => by simp [fldBits]
  | f :: l, L, h, hl => by
    have hf := h f List.mem_cons_self
    have hw : widths (f :: l) = f.2 + widths l := by simp [widths]
    rw [List.foldl_cons, wPut_ok L f.1 f.2 hf.1 hf.2 (by omega)]
    dsimp only
    rw [putAll_ok l _ (fun g hg => h g (List.mem_cons_of_mem _ hg)) (by rw [List.length_append, numb_length]; omega)]
    simp [fldBits, List.append_assoc]
theorem putAll_flds (h : HD) (n : Nat) (hok : OkH h) (hn : n ≤ 2047) : putAll (hflds h n) = hbits h n := by
  unfold putAll
  have hr := rix_lt h.rate
  have h1 := hok.num
  have h2 := hok.ch
  have h3 := hok.kind
  have h4 := hok.count
  have h5 := hok.back
  have h6 := hok.rate
  have ho : 0 ≤ one h.lossy ∧ one h.lossy < 2 := by unfold one; split <;> omega
  rw [putAll_ok _ _ ?_ (by simp [widths, hflds])]
  · rfl
  · intro f hf
    simp only [hflds, List.mem_cons, List.not_mem_nil, or_false] at hf
    rcases hf with rfl | rfl | rfl | rfl | rfl | rfl | rfl | rfl | rfl | rfl <;> dsimp only <;> omega
/-- Cells are not touched by book-keeping. -/
theorem own_cells {β : Type} (B b : Nat) (cs : Array Value) (t : TypeId) (fr : Nat × Nat) : OwnFrom B (fun (_ : β) W => W.heap[b]? = some (.cells cs t fr)) := fun s X Y row hs hg hr =>
  (hg.block _ (lt_of_block hs) (fun e => by
    obtain ⟨_, o, ho, hc⟩ := hr b e.symm
    rw [hs] at ho
    cases ho
    cases hc)).trans hs
theorem WrTo.keep {W W' : World} {S : Nat → Prop} {p : Nat} {L L' : List Int} (h0 : Wr W S p L) (h : WrTo W S p L' W') : Keep p W W' := by
  obtain ⟨S', _, _, f⟩ := h
  refine ⟨f.size, fun k cs t fr hk ht e => blk_fr e f ?_⟩
  rintro (q | q)
  · exact hk q
  · obtain ⟨cells, hc⟩ := h0.typed k q
    rw [e] at hc
    cases hc
    exact ht rfl
theorem WrTo.keepsFrom {W W' : World} {S : Nat → Prop} {p B : Nat} {L L' : List Int} (h0 : Wr W S p L) (h : WrTo W S p L' W') : KeepsFrom B W W' := by
  obtain ⟨S', _, _, f⟩ := h
  refine f.keepsFrom (fun k hk o ho => ?_)
  rcases hk with rfl | q
  · obtain ⟨v, hk, _⟩ := h0.blk
    rw [ho] at hk; cases hk; rfl
  · obtain ⟨cells, hk⟩ := h0.typed k q
    rw [ho] at hk; cases hk; rfl
attribute [local go_sem] Oper.semAt_some
abbrev putBox (p : Nat) : Obj := .cells #[.func (.func 27) #[.pointer (some ⟨p, 0, none⟩)] #[]] 56 (0, 0)

set_option maxHeartbeats 8000000 in
set_option maxRecDepth 100000 in
theorem Write_ok (h : HD) (A : Option Addr) (c : Nat) (body : List Int) (w : World) (hC : Kd.C (Kd.int .u8) w A body.length body) (h8 : is8 body) (hg : HG w) (hok : OkH h) (hn : body.length ≤ 2047) :
    Calls Tryd.prog 11 #[h.val, .slice A body.length c] w fun e w' => ∃ v S', e = .returned (.tuple #[v, .int .i64 0]) ∧ RB S' w' v (wFrame h body) ∧ (∀ k, S' k → w.heap.size ≤ k) ∧ Below w.heap.size w w' := by
  have HC := Aside0.mk hC
  have H8 := Aside0.mk h8
  have HGW := Aside0.mk hg
  have HOK := Aside0.mk hok
  have hck := Check_any h
  rw [(okH_iff h).2 hok, if_pos rfl] at hck
  have hfa := fields_any h (body.length : Int)
  have hst := fun m bh bs p W a b c d => fields_stops m bh bs body.length p h W a b c hok hn d
  obtain ⟨num, lossy, rate, ch, kind, count, back⟩ := h
  unfold HD.val at *
  dsimp only at *
  have HCK := Aside0.mk (fun W hW => hck W hW)
  have HFA := Aside0.mk hfa
  have HST := Aside0.mk hst
  have d1 : decide ((2047 : Int) < (body.length : Int)) = false := by simp; omega
  obtain ⟨wz, hwz⟩ : ∃ wz, wz = w.alloc (.cells #[.int .i64 num, .bool lossy, .int .i64 rate, .int .i64 ch, .int .i64 kind, .int .i64 count, .int .i64 back] 23) := ⟨_, rfl⟩
  have hkz : wz.heap[w.heap.size]? = some (.cells #[.int .i64 num, .bool lossy, .int .i64 rate, .int .i64 ch, .int .i64 kind, .int .i64 count, .int .i64 back] 23 (0, 0)) := by rw [hwz]; exact World.alloc_heap_new w _
  have hbz : Below w.heap.size w wz := by rw [hwz]; exact below_alloc (Below.refl _ _) _
  obtain ⟨bz, hz⟩ : ∃ bz, bz = w.heap.size := ⟨_, rfl⟩
  rw [← hz] at hkz
  have HZB := Aside0.mk hz
  have HZW := Aside0.mk hwz
  have HZK := Aside0.mk hkz
  have HZL := Aside0.mk hbz
  clear hC h8 hg hok hck hfa hst hwz hkz hbz hz
  refine (callsIn_wide (n := 5)).1 ?_
  refine callsIn_of_wp_marks Tryd.func11 rfl trivial ?_ rfl
  simp only [Tryd.ntmps11, List.size_toArray, List.length_cons, List.length_nil, Nat.reduceAdd, Nat.reduceSub, Array.replicate_succ, Array.replicate_zero, List.push_toArray, List.append_toArray, List.nil_append, List.cons_append]
  refine wpIn_wide.2 ?_
  go_wp2_with fail
  rw [← HZW.out, ← HZB.out]
  refine (HCK.out wz (HGW.out.below HZL.out)).mono ?_
  rintro e w1 ⟨rfl, hb⟩
  have HB1 := Aside0.mk (HZL.out.trans (hb.mono HZL.out.size))
  have hk1 := blk_fr HZK.out (Fr.below hb (fun _ => False)) (fun h => h)
  have HK1 := Aside0.mk hk1
  clear hb hk1 HCK
  go_wp2_with fail
  refine (New_any w1).mono ?_
  rintro e w2 ⟨rfl, hw2⟩
  have hWn := Wr.new w1
  rw [← hw2] at hWn
  have hB2 : Below w.heap.size w w2 := by rw [hw2]; exact HB1.out.trans ((below_alloc (Below.refl _ _) _).mono HB1.out.size)
  have hk2 := blk_alloc' HK1.out newWr
  rw [← hw2] at hk2
  obtain ⟨p, hp⟩ : ∃ p, p = w1.heap.size := ⟨_, rfl⟩
  have hpw : w.heap.size ≤ p := by rw [hp]; exact HB1.out.size
  rw [← hp] at hWn ⊢
  have hpl : p < w2.heap.size := hWn.p_lt
  have hk3 := blk_alloc' hk2 (putBox p)
  have z0 : (w2.alloc (putBox p)).cell? ⟨bz, 0, none⟩ = some (Value.int .i64 num) := by rw [cell_of_row _ _ _ _ _ _ hk3]; rfl
  have z1 : (w2.alloc (putBox p)).cell? ⟨bz, 1, none⟩ = some (Value.bool lossy) := by rw [cell_of_row _ _ _ _ _ _ hk3]; rfl
  have z2 : (w2.alloc (putBox p)).cell? ⟨bz, 2, none⟩ = some (Value.int .i64 rate) := by rw [cell_of_row _ _ _ _ _ _ hk3]; rfl
  have z3 : (w2.alloc (putBox p)).cell? ⟨bz, 3, none⟩ = some (Value.int .i64 ch) := by rw [cell_of_row _ _ _ _ _ _ hk3]; rfl
  have z4 : (w2.alloc (putBox p)).cell? ⟨bz, 4, none⟩ = some (Value.int .i64 kind) := by rw [cell_of_row _ _ _ _ _ _ hk3]; rfl
  have z5 : (w2.alloc (putBox p)).cell? ⟨bz, 5, none⟩ = some (Value.int .i64 count) := by rw [cell_of_row _ _ _ _ _ _ hk3]; rfl
  have z6 : (w2.alloc (putBox p)).cell? ⟨bz, 6, none⟩ = some (Value.int .i64 back) := by rw [cell_of_row _ _ _ _ _ _ hk3]; rfl
  obtain ⟨w3, hw3⟩ : ∃ w3, w3 = w2.alloc (putBox p) := ⟨_, rfl⟩
  obtain ⟨bp, hbp⟩ : ∃ bp, bp = w2.heap.size := ⟨_, rfl⟩
  have HW3 := Aside0.mk hw3
  have HBP := Aside0.mk hbp
  have HB3 : Aside0 (Below w.heap.size w w3) := ⟨by rw [hw3]; exact hB2.trans ((below_alloc (Below.refl _ _) _).mono hB2.size)⟩
  have HWr3 : Aside0 (Wr w3 (fun _ => False) p []) := ⟨by rw [hw3]; exact hWn.below (below_alloc (Below.refl _ _) _)⟩
  have HPB3 : Aside0 (w3.heap[bp]? = some (putBox p)) := ⟨by rw [hw3, hbp]; exact World.alloc_heap_new w2 _⟩
  have HPW := Aside0.mk hpw
  have HPL : Aside0 (p < w3.heap.size) := ⟨by rw [hw3]; simp; omega⟩
  clear hWn hB2 hk2 hp hpw hpl hk3 hw3 hbp hw2 HK1
  have hmf : ∀ (fn : Fn) (first cap : Array Value) (W : World), (Instr.makeFunc fn first cap).run Tryd.prog W = .ok (.func fn first cap) W := fun _ _ _ _ => rfl
  go_wp2_with fail
  rw [← HW3.out, ← HBP.out]
  refine (HFA.out w3).mono ?_
  rintro e w4 ⟨rfl, hw4⟩
  obtain ⟨bh, hbh⟩ : ∃ bh, bh = w3.heap.size := ⟨_, rfl⟩
  have HBH : Aside0 (w4.heap[bh]? = some (hdObj ⟨num, lossy, rate, ch, kind, count, back⟩)) := ⟨by rw [hw4, hbh]; exact blk_alloc' (World.alloc_heap_new w3 _) _⟩
  have HBS : Aside0 (w4.heap[bh + 1]? = some (intBox (body.length : Int))) := ⟨by rw [hw4, hbh]; have := World.alloc_heap_new (w3.alloc (hdObj ⟨num, lossy, rate, ch, kind, count, back⟩)) (intBox (body.length : Int)); simpa using this⟩
  have hb4 : Below w3.heap.size w3 w4 := by rw [hw4]; exact below_alloc (below_alloc (Below.refl _ _) _) _
  have HB4 := Aside0.mk (HB3.out.trans (hb4.mono HB3.out.size))
  have HWr4 := Aside0.mk (HWr3.out.below hb4)
  have HPB4 := Aside0.mk (blk_fr HPB3.out (Fr.below hb4 (fun _ => False)) (fun h => h))
  have HPL4 : Aside0 (p < w4.heap.size) := ⟨Nat.lt_of_lt_of_le HPL.out hb4.size⟩
  rw [← hbh]
  have HSTOP := Aside0.mk (HST.out 4 bh (bh + 1) p w4 HBH.out HBS.out (HGW.out.below HB4.out) HPL4.out)
  clear hw4 hb4 hbh HB3 HWr3 HPB3 HPL HW3 HBP z0 z1 z2 z3 z4 z5 z6 HST HFA
  go_wp2_with fail
  refine (wpIn_wide (n := 5)).1 ?_
  refine wpIn_rangeFunc_ownH rfl (by omega) (gf := 44) (lb := #[.pointer (some ⟨bh, 0, none⟩), .pointer (some ⟨bh + 1, 0, none⟩)]) rfl trivial (enters_of Tryd.func44 (by kernel_rfl) rfl)
    HSTOP.out (fun h k => h.trans k) ?hKb (Below.refl w4.heap.size w4) (fun _ => rfl)
    (fun pre W => WrTo w4 (fun _ => False) p (putAll pre) W ∧ W.heap[bp]? = some (putBox p))
    (fun _ _ _ => False) ?hI (fun _ _ _ _ _ hs _ _ => hs) ⟨HWr4.out.wrTo (Below.refl _ _), HPB4.out⟩
    (fun x a' W => ∃ b9 : Nat, a' = { tmps := #[.agg #[.int .i64 num, .bool lossy, .int .i64 rate, .int .i64 ch, .int .i64 kind, .int .i64 count, .int .i64 back], .slice A body.length c, .pointer (some ⟨bz, 0, none⟩), undef, .slice none 0 0, .int .i64 0, .int .i64 0, .pointer (some ⟨p, 0, none⟩), .pointer (some ⟨bp, 0, none⟩), .pointer (some ⟨b9, 0, none⟩), undef, undef, .agg #[.int .i64 num, .bool lossy, .int .i64 rate, .int .i64 ch, .int .i64 kind, .int .i64 count, .int .i64 back], .int .i64 0, .int .i64 0, .bool false, undef, .slice A body.length c, .int .i64 (body.length : Int), .bool false, .pointer (some ⟨p, 0, none⟩), .pointer (some ⟨p, 0, none⟩), .func (.func 27) #[.pointer (some ⟨p, 0, none⟩)] #[], .agg #[.int .i64 num, .bool lossy, .int .i64 rate, .int .i64 ch, .int .i64 kind, .int .i64 count, .int .i64 back], .slice A body.length c, .int .i64 (body.length : Int), seqF bh (bh + 1), .agg #[.int .i64 x.1, .int .i64 (x.2 : Int)], undef, undef, undef, undef, undef, undef, undef, undef, undef, undef, undef, undef, undef, undef, undef, undef, undef, undef, undef, undef], defers := [] } ∧ W.heap[b9]? = some (.cells #[.int .i64 x.1, .int .i64 (x.2 : Int)] 61 (0, 0))) ?hAx ?assign ?body ?done ?stop
  case hKb =>
    intro W l o o' hl ho hc _
    refine ⟨(grownBy_putObj' W l o').size, fun k cs t fr hk ht e => ?_⟩
    have hkl : k ≠ l := by
      rintro rfl
      rw [ho] at e
      cases e
      cases hc
    exact (World.putObj_heap_other hkl).trans e
  case hI =>
    intro s X Y row hs hg hr
    exact ⟨hs.1.own HPL4.out hg (fun r e => hr r e), own_cells (β := Unit) w4.heap.size bp _ _ _ () X Y row hs.2 hg hr⟩
  case hAx =>
    rintro x a' s X Y row ⟨b9, e, hb⟩ hg hr
    exact ⟨b9, e, own_cells (β := Unit) w4.heap.size b9 _ _ _ () X Y row hb hg hr⟩
  case assign =>
    intro l pre x W K hI hK
    gi_wp2
    exact hK _ _ ⟨by simp, fun i o _ hi _ => blk_alloc' hi _⟩ (Keep.alloc p W _) ⟨hI.1.own HPL4.out (World.grownBy_alloc W _ none) (fun r e => by cases e), blk_alloc' hI.2 _⟩ ⟨W.heap.size, rfl, World.alloc_heap_new W _⟩
  case body =>
    rintro l pre x a' W hl hr ⟨hT, hbp⟩ ⟨b9, rfl, hb9⟩ hlen
    obtain ⟨xv, xn⟩ := x
    dsimp only at hb9 ⊢
    have hc := cell_of_one hbp
    have hc0 : W.cell? ⟨b9, 0, none⟩ = some (.int .i64 xv) := by rw [cell_of_row _ _ _ _ _ _ hb9]; rfl
    have hc1 : W.cell? ⟨b9, 1, none⟩ = some (.int .i64 (xn : Int)) := by rw [cell_of_row _ _ _ _ _ _ hb9]; rfl
    obtain ⟨S1, h1, hs1, f1⟩ := hT
    have HD := Aside0.mk (Put_any S1 p (putAll pre) xv (xn : Int) W h1 (putAll_le pre))
    have HS := Aside0.mk hs1
    have HF := Aside0.mk f1
    have HWR := Aside0.mk h1
    have HBX := Aside0.mk hbp
    clear hb9 hbp hs1 f1 h1
    gi_wp2
    refine ⟨trivial, ?_⟩
    have hcall := callsIn_wide (n := 2).2 HD.out
    refine CallsIn.mono (show CallsIn (Fence.wide.inRound l) 2 Tryd.prog 27 _ W _ from hcall) ?_
    rintro e W' ⟨rfl, h2⟩
    gi_wp2
    refine ⟨WrTo.keepsFrom HWR.out h2, WrTo.keep HWR.out h2, ?_, (WrTo.keep HWR.out h2).2 _ _ _ _ ?_ (by decide) HBX.out⟩
    · rw [putAll_snoc]
      exact WrTo.glue HS.out HF.out h2
    · obtain ⟨v, hb, _⟩ := HWR.out.blk
      exact blk_ne HBX.out hb (by decide)
  case done =>
    rintro D ys W hD rfl ⟨hT, hbp⟩ hK
    rw [putAll_flds _ _ HOK.out hn] at hT
    obtain ⟨S1, h1, hs1, f1⟩ := hT
    have HW1 := Aside0.mk h1
    have hBW : Below w.heap.size w W := HB4.out.trans (f1.to_below HB4.out.size (fun j hj => by
      rcases hj with rfl | q
      · exact HPW.out
      · exact q.elim))
    have HBW := Aside0.mk hBW
    have HDK := Aside0.mk hK
    have HCW := Aside0.mk (Kd.C_below HC.out hBW)
    have hll := hbits_length ⟨num, lossy, rate, ch, kind, count, back⟩ body.length
    have HL01 := Aside0.mk (hbits_01 ⟨num, lossy, rate, ch, kind, count, back⟩ body.length)
    obtain ⟨out, hout⟩ : ∃ out, out = outB ⟨num, lossy, rate, ch, kind, count, back⟩ body := ⟨_, rfl⟩
    have HOUT : Aside0 (out = pk (hbits ⟨num, lossy, rate, ch, kind, count, back⟩ body.length) ++ body) := ⟨hout⟩
    have HWF : Aside0 (wFrame ⟨num, lossy, rate, ch, kind, count, back⟩ body = out ++ [((sumB out / 256 : Nat) : Int), ((sumB out % 256 : Nat) : Int)]) := ⟨by rw [hout]; rfl⟩
    generalize hbits ⟨num, lossy, rate, ch, kind, count, back⟩ body.length = LB at *
    have hpl7 : (pk LB).length = 7 := by rw [pk_length]; omega
    have HOL : Aside0 (out.length = 7 + body.length) := ⟨by rw [HOUT.out, List.length_append, hpl7]⟩
    have HO8 : Aside0 (is8 out) := ⟨by rw [HOUT.out]; exact is8_append (pk_is8 HL01.out) H8.out⟩
    clear hK hBW h1 hs1 f1 hbp hout HWr4 HPB4 HBH HBS HSTOP
    (try simp only [Exit.inBlock, Exit.then])
    go_wp2_with fail
    refine (Bytes_any S1 p LB W HW1.out (by omega)).mono ?_
    rintro e w5 ⟨v5, S5, rfl, hr5, hs5, hb5⟩
    obtain ⟨A5, c5, ev, hcap5, hC5⟩ := Kd.R_reads hr5
    subst ev
    rw [hpl7] at hr5 ⊢
    obtain ⟨v6, w6, hrun6, hr6, hg6⟩ := append_run (S := S5) w5 (.slice A5 7 c5) (pk LB) body A body.length c hr5 (Kd.C_below HCW.out hb5) (by rw [hpl7]; omega)
    have hb6 : Below W.heap.size W w6 := hb5.grown hg6 hb5.size (fun k hk => hs5 k (hr5.1 k hk))
    rw [← HOUT.out] at hr6
    obtain ⟨A6, c6, ev, hcap6, hC6⟩ := Kd.R_reads hr6
    subst ev
    have HRUN6 := Aside0.mk hrun6
    have HR6 := Aside0.mk hr6
    have HC6 := Aside0.mk hC6
    have HB6 := Aside0.mk hb6
    have HS6 : Aside0 (∀ k, (S5 k ∨ k = w5.heap.size) → W.heap.size ≤ k) := ⟨fun k hk => by
      rcases hk with q | rfl
      · exact hs5 k q
      · exact hb5.size⟩
    clear hr5 hs5 hb5 hC5 hcap5 hrun6 hr6 hg6 hb6 hC6 hcap6
    go_wp2_with (at_builtin; refine wpList_run_append rfl _ _ _ rfl _ _ rfl rfl HRUN6.out ?_)
    refine (Crc16_any A6 out.length c6 out w6 HC6.out HO8.out (by have := HOL.out; omega)).mono ?_
    rintro e w7 ⟨rfl, hb7⟩
    rw [show crc16 (ofB out (8 * out.length)) = sumB out from rfl]
    have hs16 := sumB_lt out
    have hr7 : RB _ w7 (.slice A6 out.length c6) out := R_fr HR6.out (Fr.below hb7 (fun _ => False)) (fun _ _ _ h => h)
    have hb67 := HB6.out.trans (hb7.mono HB6.out.size)
    generalize hS : sumB out = s at *
    obtain ⟨w8, hw8⟩ : ∃ w8, w8 = w7.alloc (.cells #[.int .u8 ((s : Int) / 256), .int .u8 ((s : Int) % 256)] 5) := ⟨_, rfl⟩
    have hb8 : Below W.heap.size W w8 := by rw [hw8]; exact hb67.trans ((below_alloc (Below.refl _ _) _).mono hb67.size)
    have hr8 : RB _ w8 (.slice A6 out.length c6) out := R_fr hr7 (by rw [hw8]; exact Fr.below (below_alloc (Below.refl _ _) _) (fun _ => False)) (fun _ _ _ h => h)
    have hl8 : Kd.C (Kd.int .u8) w8 (some ⟨w7.heap.size, 0, none⟩) 2 [(s : Int) / 256, (s : Int) % 256] := by rw [hw8]; exact lit_C8 w7 [(s : Int) / 256, (s : Int) % 256] (by simp)
    obtain ⟨v9, w9, hrun9, hr9, hg9⟩ := append_run w8 (.slice A6 out.length c6) out [(s : Int) / 256, (s : Int) % 256] (some ⟨w7.heap.size, 0, none⟩) 2 2 hr8 hl8 (by have := HOL.out; omega)
    have hb9 : Below W.heap.size W w9 := hb8.grown hg9 hb8.size (fun k hk => HS6.out k (hr8.1 k hk))
    rw [hw8] at hrun9
    have HRUN9 := Aside0.mk hrun9
    have HR9 := Aside0.mk hr9
    have HB9 := Aside0.mk hb9
    have HW8 := Aside0.mk hw8
    have HSZ8 : Aside0 (W.heap.size ≤ w8.heap.size) := ⟨hb8.size⟩
    clear hr7 hb67 hb8 hr8 hl8 hrun9 hr9 hg9 hb9 hb7 hw8
    go_wp2_with (at_builtin; refine wpList_run_append rfl _ _ _ rfl _ _ rfl rfl HRUN9.out ?_)
    have hDW : D < W.heap.size := lt_of_block HDK.out
    have hK9 := (HB9.out.block D hDW).trans HDK.out
    refine ⟨by simp, .inl ⟨_, _, rfl, run_takeDeferred hK9, ?_⟩⟩
    have hbf := HBW.out.trans (HB9.out.mono HBW.out.size)
    have hD0 : w.heap.size ≤ D := Nat.le_trans HB4.out.size hD
    rw [HWF.out]
    have hr := HR9.out
    have es : [((s / 256 : Nat) : Int), ((s % 256 : Nat) : Int)] = [(s : Int) / 256, (s : Int) % 256] := by simp
    rw [es]
    have hfD : Fr (fun k => k = D) w9 (w9.putObj D (.deferred none)) := (Fr.refl _ _).grown (grownBy_putObj' w9 D (.deferred none)) (fun k _ e => by cases e; rfl)
    refine ⟨_, results_tmp2 rfl _ _ _, _, _, rfl, R_fr hr hfD ?_, ?_, ?_⟩
    · intro k hk _ e
      have h1 : W.heap.size ≤ k := by
        rcases hk with q | q
        · exact HS6.out k q
        · have := HSZ8.out; omega
      omega
    · intro k hk
      have h1 : W.heap.size ≤ k := by
        rcases hk with q | q
        · exact HS6.out k q
        · have := HSZ8.out; omega
      have := HBW.out.size
      omega
    · exact hbf.grown (grownBy_putObj' _ _ _) hbf.size (fun k e => by cases e; exact hD0)
  case stop =>
    rintro D c pre W _ _ h _
    exact h.elim

set_option maxHeartbeats 2000000 in
set_option maxRecDepth 100000 in
attribute [local go_sem ↓] Go.wp_at_zero Go.wp_at_succ in
theorem Write_any (h : HD) (A : Option Addr) (c : Nat) (body : List Int) (w : World) (hC : Kd.C (Kd.int .u8) w A body.length body) (h8 : is8 body) (hg : HG w) (hl : body.length ≤ 9223372036854775807) :
    Calls Tryd.prog 11 #[h.val, .slice A body.length c] w fun e w' => ∃ v S', e = .returned (.tuple #[v, .int .i64 (fWrite h body).2]) ∧ RB S' w' v (fWrite h body).1 ∧ (∀ k, S' k → w.heap.size ≤ k) ∧ Below w.heap.size w w' := by
  by_cases hok : okH h = true
  · by_cases hn : 2047 < body.length
    · have e : fWrite h body = ([], 2) := by unfold fWrite; rw [if_neg (by rw [hok]; simp), if_pos hn]
      have hck := Check_any h
      rw [hok, if_pos rfl] at hck
      have HCK := Aside0.mk (fun W hW => hck W hW)
      have HGW := Aside0.mk hg
      have HE := Aside0.mk e
      have d1 : decide ((2047 : Int) < (body.length : Int)) = true := by simp; omega
      obtain ⟨num, lossy, rate, ch, kind, count, back⟩ := h
      unfold HD.val at *
      dsimp only at *
      clear hC h8 hck hok hg e hn
      go_enter Tryd.func11, Tryd.ntmps11
      go_wp2_with fail
      refine (HCK.out _ (HGW.out.below (below_alloc (Below.refl _ _) _))).mono ?_
      rintro e w1 ⟨rfl, hb⟩
      have HB := Aside0.mk ((below_alloc (Below.refl w.heap.size w) _).trans (hb.mono (by simp)))
      clear hb
      go_wp2_with fail
      go_ret2
      rw [HE.out]
      exact ⟨_, fun _ => False, rfl, Kd.R_nil _ _ _ _ _, fun _ h => h.elim, HB.out⟩
    · have e : fWrite h body = (wFrame h body, 0) := by unfold fWrite; rw [if_neg (by rw [hok]; simp), if_neg hn]
      rw [e]
      exact Write_ok h A c body w hC h8 hg ((okH_iff h).1 hok) (by omega)
  · have hok : okH h = false := by simpa using hok
    have e : fWrite h body = ([], 1) := by unfold fWrite; rw [if_pos hok]
    have hck := Check_any h
    rw [hok, if_neg (by decide)] at hck
    have HCK := Aside0.mk (fun W hW => hck W hW)
    have HGW := Aside0.mk hg
    have HE := Aside0.mk e
    obtain ⟨num, lossy, rate, ch, kind, count, back⟩ := h
    unfold HD.val at *
    dsimp only at *
    clear hC h8 hck hok hg e
    go_enter Tryd.func11, Tryd.ntmps11
    go_wp2_with fail
    refine (HCK.out _ (HGW.out.below (below_alloc (Below.refl _ _) _))).mono ?_
    rintro e w1 ⟨rfl, hb⟩
    have HB := Aside0.mk ((below_alloc (Below.refl w.heap.size w) _).trans (hb.mono (by simp)))
    clear hb
    go_wp2_with fail
    go_ret2
    rw [HE.out]
    exact ⟨_, fun _ => False, rfl, Kd.R_nil _ _ _ _ _, fun _ h => h.elim, HB.out⟩
end Go.Proofs.YtnaklnehichhpaaDoor.P
