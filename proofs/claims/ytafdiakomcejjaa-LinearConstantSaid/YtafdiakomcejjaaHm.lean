/- The contract of linear.Reflect. -/
import Derived.Test.YtafdiakomcejjaaHj
import Derived.Test.YtafdiakomcejjaaHl
import Derived.Test.YtafdiakomcejjaaHk
namespace Go.Proofs.Ytafdiakomcejjaa.P
open Go.RowKit Go.Shelf Go.Proofs.YtafdiakomcejjaaW.PrintWords Go.Proofs.YtafdiakomcejjaaW.PrintLast Go.Proofs.YtafdiakomcejjaaW.PrintMore
set_option linter.unusedVariables false
set_option linter.unusedSimpArgs false
attribute [local go_sem ↓] Go.wp_at_zero Go.wp_at_succ

def reflected (x : List Int) (o : Nat) : List Int := coefs (normd x o).tail ((normd x o).take o) o

def linear_Reflect.f (l0 : List Int) (a1 : Int) : Option (List Int × Int) :=
  if l0.length ≤ 9223372036854775807 then
    (if a1 < 0 ∨ 12 < a1 then some ([], 1) else if chk l0 2097152 = 0 then some (reflected l0 a1.toNat, 0) else some ([], chk l0 2097152))
  else none

theorem refl_lower {w : World} {b b' bu bv : Nat} {u v : List Int} (h : Refl w b bu bv u v) (hb : b' ≤ b) : Refl w b' bu bv u v := by
  obtain ⟨U, V, h1, h2, h3, h4, h5⟩ := h
  exact ⟨U, V, h1, h2, Kd.R_lower h3 hb, Kd.R_lower h4 hb, h5⟩
theorem row_fr {w w1 : World} {b base bu bv : Nat} {u v l : List Int} {x : Value} (h : Kd.R (Kd.int .i64) 3 w base (fun _ => True) x l) (hR : Refl w b bu bv u v) (hf : Fr (fun k => k = bu ∨ k = bv) w w1) : Kd.R (Kd.int .i64) 3 w1 base (fun _ => True) x l := by
  obtain ⟨U, V, h1, h2, h3, h4, h5⟩ := hR
  have a := Kd.R_types (Kd.R_types h h1 (by simp [Kd.int, Kd.scalar])) h2 (by simp [Kd.int, Kd.scalar])
  exact Kd.R_mono (R_fr a hf (fun k hk _ hs => by rcases hs with rfl | rfl; exact hk.1.2 rfl; exact hk.2 rfl)) (fun _ _ => trivial)
theorem refl_grown {W w9 : World} {b base bu bv : Nat} {u v l : List Int} {x : Value} (hR : Refl W b bu bv u v) (h : Kd.R (Kd.int .i64) 3 W base (fun _ => True) x l) (hlt : ∀ k, x.ownBlock = some k → k < b) (hg : W.grownBy w9 x.ownBlock) : Refl w9 b bu bv u v := by
  obtain ⟨U, V, h1, h2, h3, h4, h5⟩ := hR
  have n1 := Kd.R_ne h h1 (by decide)
  have n2 := Kd.R_ne h h2 (by decide)
  have f : ∀ k, b ≤ k → some k ≠ x.ownBlock := fun k hk he => by have := hlt k he.symm; omega
  exact ⟨U, V, (hg.block bu (lt_of_block h1) n1).trans h1, (hg.block bv (lt_of_block h2) n2).trans h2,
    Kd.R_mono (Kd.R_grown (Kd.R_bound h3) hg (fun k hk => f k hk.2.1)) (fun _ _ => trivial), Kd.R_mono (Kd.R_grown (Kd.R_bound h4) hg (fun k hk => f k hk.2.1)) (fun _ _ => trivial), h5⟩
theorem normd_length (x : List Int) (o : Nat) : (normd x o).length = o + 1 := by simp [normd, autos]

set_option maxHeartbeats 2000000 in
set_option maxRecDepth 100000 in
theorem reflect_yes (A0 : Option Addr) (c0 : Nat) (l0 : List Int) (o : Nat) (w : World) (hr0 : Kd.C (Kd.int .i64) w A0 l0.length l0) (hc0 : l0.length ≤ c0) (hk : o ≤ 12) (hz : chk l0 2097152 = 0) :
    Calls Try.prog 16 #[.slice A0 l0.length c0, .int .i64 o] w fun e w' => ∃ v0_ : Value, e = .returned (.tuple #[v0_, .int .i64 0]) ∧ Kd.R (Kd.int .i64) 3 w' w.heap.size (fun _ => True) v0_ (reflected l0 o) ∧ Below w.heap.size w w' := by
  obtain ⟨hlen, hwi⟩ := chk_zero hz
  have HR := Aside0.mk hr0
  have HZ := Aside0.mk hz
  have HW := Aside0.mk hwi
  obtain ⟨g0, G, hG⟩ : ∃ g0 G, normd l0 o = g0 :: G := by
    cases h : normd l0 o with
    | nil => have := normd_length l0 o; rw [h] at this; cases this
    | cons a t => exact ⟨a, t, rfl⟩
  have hGl : G.length = o := by have := normd_length l0 o; rw [hG] at this; simpa using this
  have hbd := normd_bnd hwi (by omega) o
  have huv : reflected l0 o = coefs G ((g0 :: G).take o) o := by unfold reflected; rw [hG]; rfl
  have hbu : bnd 1073741824 G := fun i => by
    by_cases hi : 0 ≤ i
    · have := hbd (i + 1)
      rw [hG] at this
      rwa [show rd (g0 :: G) (i + 1) = rd G i from by unfold rd; rw [show (i + 1).toNat = i.toNat + 1 by omega]; rfl] at this
    · have := hbd 1
      rw [hG] at this
      rwa [show rd (g0 :: G) 1 = rd G i from by unfold rd; rw [show i.toNat = 0 by omega]; rfl] at this
  have hbv : bnd 1073741824 ((g0 :: G).take o) := fun i => by
    have h1 := hbd i
    rw [hG] at h1
    unfold rd at h1 ⊢
    rw [List.getD_eq_getElem?_getD] at h1 ⊢
    rw [List.getElem?_take]
    split
    · exact h1
    · simp
  have hvl : ((g0 :: G).take o).length = o := by simp [hGl]
  have HGL := Aside0.mk hGl
  have HVL := Aside0.mk hvl
  have HUV := Aside0.mk huv
  have HG := Aside0.mk hG
  have HBU := Aside0.mk hbu
  have HBV := Aside0.mk hbv
  clear hr0 hz hwi hbu hbv hbd hvl huv hG hGl
  have hd1 : decide ((o : Int) < 0) = false := by simp
  have hd2 : decide ((12 : Int) < (o : Int)) = false := by simp; omega
  go_enter Try.func16, Try.ntmps16
  go_wp2_with (first
    | (go_at_call 26; refine (linear_check.calls A0 c0 l0 2097152 0 _ HR.out hc0 (by unfold linear_check.f; rw [if_pos (by omega), HZ.out])).mono ?_; rintro e w1 ⟨rfl, hb1⟩; have HB1 := Aside0.mk hb1; clear hb1)
    | (go_at_call 30; refine (normalized_any A0 c0 l0 o _ (Kd.C_below HR.out HB1.out) HW.out (by omega) hk).mono ?_; rintro e w2 ⟨v2, rfl, ho2, hb2⟩; rw [HG.out] at ho2; obtain ⟨A2, c2, hv2, hc2, hC2⟩ := Kd.R_reads ho2; rw [List.length_cons, HGL.out] at hv2; cases hv2; have HO2 := Aside0.mk ho2; have HB2 := Aside0.mk hb2; have HC2 := Aside0.mk hC2; have HL2 := Aside0.mk hc2; clear ho2 hb2 hC2 hc2)
    | (go_at_call 29; have hq := reflector_any A2 c2 g0 G _ HC2.out HL2.out (by have := HGL.out; omega); rw [HGL.out] at hq; refine hq.mono ?_; clear hq; rintro e w3 ⟨bu, bv, rfl, hR3, hbu3, hbv3, hb3⟩; have HR3 := Aside0.mk hR3; have HB3 := Aside0.mk hb3; clear hR3 hb3))
  obtain ⟨V, hV⟩ : ∃ V, V = (g0 :: G).take o := ⟨_, rfl⟩
  rw [← hV] at HR3 HBV HVL HUV
  obtain ⟨U, hU⟩ : ∃ U, U = G := ⟨_, rfl⟩
  rw [← hU] at HR3 HBU HGL HUV
  have hbu4 : w.heap.size ≤ bu := Nat.le_trans (below_size (below_step HB1.out HB2.out)) hbu3
  have hbv4 : w.heap.size ≤ bv := Nat.le_trans (below_size (below_step HB1.out HB2.out)) hbv3
  clear hV hU hbu3 hbv3
  go_loopw [7, 25] (fun v u wr => ∃ k : Nat, k ≤ o ∧ u = .int .i64 k ∧ Aside0 (Kd.R (Kd.int .i64) 3 wr w.heap.size (fun _ => True) v ((coefs U V o).take k)) ∧ Aside0 (Refl wr w.heap.size bu bv (rst U V k).1 (rst U V k).2) ∧ Aside0 (Below w.heap.size w wr)) (fun _ u _ => o - (intOf u).toNat)
  case atStart => exact ⟨0, Nat.zero_le _, rfl, ⟨by simpa using Kd.R_nil _ _ _ _ _⟩, ⟨refl_lower HR3.out (below_size (below_step HB1.out HB2.out))⟩, ⟨below_step (below_step HB1.out HB2.out) HB3.out⟩⟩
  case round =>
    obtain ⟨k, hk', rfl, HO, HRk, HB⟩ := hrel
    by_cases hlt : k < o
    · obtain ⟨m, hm⟩ : ∃ m, o - k = m + 1 := ⟨o - k - 1, by omega⟩
      have hlen1 := rst_length HGL.out HVL.out k
      have hbd := bnd_rst' HBU.out HBV.out k (by omega)
      have HT := Aside0.mk (coefs_take U V o k hlt)
      have HLk := Aside0.mk (show ((coefs U V o).take k).length = k by rw [List.length_take, coefs_length]; omega)
      have HCL : Aside0 (Calls Try.prog 43 #[.pointer (some ⟨bv, 0, none⟩), .pointer (some ⟨bu, 0, none⟩)] wr fun e w' => e = .returned (.int .i64 (refK (rst U V k).1 (rst U V k).2)) ∧ Refl w' wr.heap.size bu bv (rst U V (k + 1)).1 (rst U V (k + 1)).2 ∧ Fr (fun k => k = bu ∨ k = bv) wr w') :=
        ⟨reflector1_any bu bv w.heap.size _ _ wr HRk.out m (by omega) (by omega) (by omega) hbd.1 hbd.2⟩
      obtain ⟨q, hq⟩ : ∃ q, q = refK (rst U V k).1 (rst U V k).2 := ⟨_, rfl⟩
      rw [← hq] at HCL HT
      have hsz := HB.out.size
      clear hq hlen1 hbd hm
      go_wp2_with (first
        | (go_at_call 43; refine HCL.out.mono ?_; rintro e w4 ⟨rfl, hR4, hF4⟩; have HO4 := Aside0.mk (row_fr HO.out HRk.out hF4); have HB4 := Aside0.mk (HB.out.trans (hF4.to_below hsz (fun j hj => by rcases hj with rfl | rfl; exact hbu4; exact hbv4))); have HR4 := Aside0.mk hR4; have HF4 := Aside0.mk hF4; clear hR4 hF4)
        | (at_builtin; refine Kd.R_append (Kd.int .i64) (w0 := w) w.heap.size rfl (.tmp 27) (.tmp 30) 22 3 (.int .i64 0) 8 rfl Try.underlying22 hinfo3 rfl (by decide) (by omega) _ ((coefs U V o).take k) q [.int .i64 q] (fun _ => True) (fun _ => False) rfl rfl rfl (fun _ hk => hk.elim) (fun _ _ => trivial) HO4.out HB4.out HB4.out.size (by rw [HLk.out]; omega) ?_; intro v9 w9 ho hb hg hat; rw [← HT.out] at ho; have HO9 := Aside0.mk ho; have HB9 := Aside0.mk hb; have HR9 := Aside0.mk (refl_grown HR4.out HO4.out (fun j hj => ((Kd.R_bound HO.out).1 j hj).2.2.1) hg); clear ho hb hg hat))
      go_roundw
      case rel => exact ⟨k + 1, by omega, by go_num, HO9, ⟨refl_lower HR9.out hsz⟩, HB9⟩
      case measure => simp [intOf]; omega
    · obtain rfl : k = o := by omega
      go_wp2
      go_ret2
      have h1 := HO.out
      rw [List.take_of_length_le (by rw [coefs_length]; exact Nat.le_refl _), ← HUV.out] at h1
      exact ⟨_, rfl, h1, HB.out⟩

set_option maxHeartbeats 1000000 in
theorem linear_Reflect.calls (A0 : Option Addr) (c0 : Nat) (l0 : List Int) (a1 : Int) (r1 : List Int) (r2 : Int) (w : World) (hr0 : Kd.C (Kd.int .i64) w A0 l0.length l0) (hc0 : l0.length ≤ c0) (h : linear_Reflect.f l0 a1 = some (r1, r2)) :
    Calls Try.prog 16 #[.slice A0 l0.length c0, .int .i64 a1] w fun e w' => ∃ v0_ : Value, e = .returned (.tuple #[v0_, .int .i64 r2]) ∧ Kd.R (Kd.int .i64) 3 w' w.heap.size (fun _ => True) v0_ r1 ∧ Below w.heap.size w w' := by
  unfold linear_Reflect.f at h
  split at h
  · rename_i hl
    split at h
    · rename_i hk
      simp only [Option.some.injEq, Prod.mk.injEq] at h
      obtain ⟨rfl, rfl⟩ := h
      rcases hk with hk | hk
      · have hd1 : decide (a1 < 0) = true := by simpa using hk
        go_enter Try.func16, Try.ntmps16
        go_wp2
        go_ret2
        exact ⟨_, rfl, Kd.R_nil _ _ _ _ _, Below.refl _ _⟩
      · have hd1 : decide (a1 < 0) = false := by simp; omega
        have hd2 : decide (12 < a1) = true := by simpa using hk
        go_enter Try.func16, Try.ntmps16
        go_wp2
        go_ret2
        exact ⟨_, rfl, Kd.R_nil _ _ _ _ _, Below.refl _ _⟩
    · rename_i hk
      split at h
      · rename_i hz
        obtain ⟨k, rfl⟩ : ∃ k : Nat, a1 = k := ⟨a1.toNat, by omega⟩
        rw [Int.toNat_natCast] at h
        simp only [Option.some.injEq, Prod.mk.injEq] at h
        obtain ⟨rfl, rfl⟩ := h
        exact reflect_yes A0 c0 l0 k w hr0 hc0 (by omega) hz
      · rename_i hz
        simp only [Option.some.injEq, Prod.mk.injEq] at h
        obtain ⟨rfl, rfl⟩ := h
        have HR := Aside0.mk hr0
        clear hr0
        have hd1 : decide (a1 < 0) = false := by simp; omega
        have hd2 : decide (12 < a1) = false := by simp; omega
        obtain ⟨q, hq⟩ : ∃ q, q = chk l0 2097152 := ⟨_, rfl⟩
        rw [← hq] at hz ⊢
        have HQ := Aside0.mk hq
        clear hq
        have hz1 : (q != 0) = true := by simpa using hz
        have hz2 : (q == 0) = false := by simpa using hz
        go_enter Try.func16, Try.ntmps16
        go_wp2_with (go_at_call 26; refine (linear_check.calls A0 c0 l0 2097152 q _ HR.out hc0 (by unfold linear_check.f; rw [if_pos (by omega), HQ.out])).mono ?_; rintro e w1 ⟨rfl, hb1⟩; have HB1 := Aside0.mk hb1; clear hb1)
        go_ret2
        exact ⟨_, rfl, Kd.R_nil _ _ _ _ _, HB1.out⟩
  · cases h
end Go.Proofs.Ytafdiakomcejjaa.P
