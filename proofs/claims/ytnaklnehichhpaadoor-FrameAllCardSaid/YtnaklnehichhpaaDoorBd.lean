/- The contracts of bits.number, of bits.each with Writer.add, of Writer.put. -/
import Derived.Test.YtnaklnehichhpaaDoorBc
namespace Go.Proofs.YtnaklnehichhpaaDoor.P
open Go.RowKit Go.Shelf Go.Proofs.YtnaklnehichhpaaDoor.Bits Go.Proofs.YtnaklnehichhpaaDoorW.PrintWords Go.Proofs.YtnaklnehichhpaaDoorW.PrintLast Go.Proofs.YtnaklnehichhpaaDoorW.PrintMore
set_option linter.unusedVariables false
set_option linter.unusedSimpArgs false
attribute [local go_sem ↓] Go.wp_at_zero Go.wp_at_succ

abbrev intBox (x : Int) : Obj := .cells #[.int .i64 x] 3 (0, 0)
/-- The iterator that bits.number gives. -/
abbrev seqOf (bn bv : Nat) : Value := .func (.func 60) #[] #[.pointer (some ⟨bn, 0, none⟩), .pointer (some ⟨bv, 0, none⟩)]
theorem number_any (v n : Int) (w : World) :
    Calls Tryd.prog 48 #[.int .i64 v, .int .i64 n] w fun e w' => e = .returned (seqOf (w.heap.size + 1) w.heap.size) ∧ w' = (w.alloc (intBox v)).alloc (intBox n) := by
  go_enter Tryd.func48, Tryd.ntmps48
  go_wp2
  go_ret
  simp

/-- A step of book-keeping. -/
theorem WrTo.own {w W W' : World} {S : Nat → Prop} {p : Nat} {L : List Int} {row : Option Nat} (h : WrTo w S p L W) (hp : p < w.heap.size) (hg : W.grownBy W' row) (hr : ∀ r, row = some r → w.heap.size ≤ r ∧ ∃ o : Obj, W.heap[r]? = some o ∧ o.isCells = false) : WrTo w S p L W' := by
  obtain ⟨S1, h1, hs1, f1⟩ := h
  have hF : Fr (fun k => row = some k) W W' := (Fr.refl _ _).grown hg (fun k _ e => e)
  refine ⟨S1, h1.fr hF (fun e => ?_) (fun k hk e => ?_), hs1, f1.next hF (fun k hk e => by have := (hr k e).1; omega)⟩
  · have := (hr p e).1; omega
  · obtain ⟨_, o, ho, hc⟩ := hr k e
    obtain ⟨cells, hcs⟩ := h1.typed k hk
    rw [ho] at hcs
    cases hcs
    cases hc

theorem each_add (S : Nat → Prop) (p bn bv n : Nat) (v : Int) (L : List Int) (w : World) (hW : Wr w S p L) (hbn : w.heap[bn]? = some (intBox n)) (hbv : w.heap[bv]? = some (intBox v))
    (hn : n ≤ 100000) (hv : 0 ≤ v) (hv' : v ≤ 9223372036854775807) (hL : L.length + n ≤ 4194304) :
    Calls Tryd.prog 47 #[seqOf bn bv, .func (.func 59) #[.pointer (some ⟨p, 0, none⟩)] #[]] w fun e w' => e = .returned (.tuple #[]) ∧ WrTo w S p (L ++ numb v n) w' := by
  have hb1 : Below w.heap.size w (w.alloc (.cells #[.func (.func 59) #[.pointer (some ⟨p, 0, none⟩)] #[]] 87)) := below_alloc (Below.refl _ _) _
  have hs1 : (w.alloc (.cells #[.func (.func 59) #[.pointer (some ⟨p, 0, none⟩)] #[]] 87)).heap.size = w.heap.size + 1 := Array.size_push _
  have hp := hW.p_lt
  have hne : ∀ b x, w.heap[b]? = some (intBox x) → ¬ (b = p ∨ S b ∨ w.heap.size < b) := by
    rintro b x hb (rfl | h | h)
    · obtain ⟨v, hk, _⟩ := hW.blk
      rw [hb] at hk; cases hk
    · obtain ⟨cells, hk⟩ := hW.typed b h
      rw [hb] at hk; cases hk
    · have := lt_of_block hb; omega
  refine (each_any 59 #[.pointer (some ⟨p, 0, none⟩)] #[] (enters_of Tryd.func59 (by kernel_rfl) rfl) bn bv n v (fun k => k = p ∨ S k ∨ w.heap.size < k)
    (fun pre W => WrTo (w.alloc (.cells #[.func (.func 59) #[.pointer (some ⟨p, 0, none⟩)] #[]] 87)) S p (L ++ pre) W) w (cell_of_one hbn) (cell_of_one hbv) (hne _ _ hbn) (hne _ _ hbv) ?_ ?_ hn hv hv' ?_ ?_ ?_).mono ?_
  · rintro (h | h | h)
    · omega
    · have := hW.lt _ h; omega
    · omega
  · exact fun k hk => .inr (.inr hk)
  · intro s W W' row h hg hr
    exact h.own (by omega) hg (fun r e => ⟨by have := (hr r e).1; omega, (hr r e).2⟩)
  · rw [List.append_nil]
    exact (hW.fr (Fr.below hb1 (fun _ => False)) (fun h => h) (fun _ _ h => h)).to (Fr.refl (fun _ => False) _) (fun h => h) (fun _ _ h => h) (fun _ _ h => h.elim)
  · intro pre b W hb hJ hlen hF
    obtain ⟨S1, h1, hs, f1⟩ := hJ
    refine (add_any S1 p (L ++ pre) b W h1 hb (by rw [List.length_append]; omega)).mono ?_
    rintro e W' ⟨rfl, h2⟩
    rw [List.append_assoc] at h2
    have h3 : WrTo (w.alloc (.cells #[.func (.func 59) #[.pointer (some ⟨p, 0, none⟩)] #[]] 87)) S p (L ++ (pre ++ [b])) W' := by
      obtain ⟨S2, k2, hs2, f2⟩ := h2
      refine ⟨S2, k2, fun i hi => ?_, f1.next f2 (fun i hi hT => ?_)⟩
      · rcases hs2 i hi with q | q
        · exact hs i q
        · exact .inr (Nat.le_trans f1.size q)
      · rcases hT with q | q
        · exact .inl q
        · rcases hs i q with q | q
          · exact .inr q
          · omega
    obtain ⟨S2, k2, hs2, f2⟩ := h2
    refine ⟨⟨_, rfl⟩, h3, f2.mono (fun k _ hk => ?_), f2.keepsFrom (fun k hk o ho => ?_)⟩
    · rcases hk with q | q
      · exact .inl q
      · rcases hs k q with q | q
        · exact .inr (.inl q)
        · exact .inr (.inr (by omega))
    · rcases hk with rfl | q
      · obtain ⟨v, hk, _⟩ := h1.blk
        rw [ho] at hk; cases hk; rfl
      · obtain ⟨cells, hk⟩ := h1.typed k q
        rw [ho] at hk; cases hk; rfl
  · rintro e w' ⟨rfl, ⟨S1, h1, hs, f1⟩, _⟩
    refine ⟨rfl, S1, h1, fun k hk => ?_, (Fr.below hb1 _).trans f1⟩
    rcases hs k hk with q | q
    · exact .inl q
    · exact .inr (by omega)
end Go.Proofs.YtnaklnehichhpaaDoor.P
