/- The reference's writer: Align, Gamma. -/
import Derived.Test.YtmjekkkpbcehoaaBt
namespace Go.Proofs.Ytmjekkkpbcehoaa.P
open Go.RowKit Go.Shelf Go.Proofs.Ytmjekkkpbcehoaa.Bits Go.Proofs.YtmjekkkpbcehoaaW.PrintWords Go.Proofs.YtmjekkkpbcehoaaW.PrintLast Go.Proofs.YtmjekkkpbcehoaaW.PrintMore
set_option linter.unusedVariables false
set_option linter.unusedSimpArgs false
attribute [local go_sem ↓] Go.wp_at_zero Go.wp_at_succ

/-- How many bits a writer of the reference has. -/
def rbitsIn (w : World) (p : Nat) : Nat := match w.cell? ⟨p, 0, none⟩ with | some (.slice _ n _) => n | _ => 0
theorem RWr.rbits {w : World} {S : Nat → Prop} {p : Nat} {L : List Int} (h : RWr w S p L) : rbitsIn w p = L.length := by
  obtain ⟨v, hb, hr⟩ := h.blk
  obtain ⟨A, c, e⟩ := Kd.R_slice hr
  subst e
  unfold rbitsIn
  rw [cell_of_one hb]

set_option maxHeartbeats 1000000 in
set_option maxRecDepth 100000 in
theorem RAlignW_any (S : Nat → Prop) (p : Nat) (L : List Int) (b : Int) (w : World) (hW : RWr w S p L) (hL : L.length ≤ 1048576) :
    Calls Try.prog 58 #[.pointer (some ⟨p, 0, none⟩), .int .i64 b] w fun e w' => e = .returned (.int .i64 (wAlign L b).1) ∧ RWrTo w S p (wAlign L b).2 w' := by
  have HW := Aside0.mk hW
  have hp := hW.p_lt
  clear hW
  by_cases h1 : b < 0
  · have HN : Aside0 (wAlign L b = (1, L)) := ⟨by unfold wAlign; rw [if_pos (by omega)]⟩
    have d1 : decide (b < 0) = true := by simpa using h1
    go_enter Try.func58, Try.ntmps58
    go_wp2_with fail
    go_ret
    rw [HN.out]
    exact ⟨rfl, HW.out.wrTo (Below.refl _ _)⟩
  by_cases h2 : 1 < b
  · have HN : Aside0 (wAlign L b = (1, L)) := ⟨by unfold wAlign; rw [if_pos (by omega)]⟩
    have d1 : decide (b < 0) = false := by simpa using h1
    have d2 : decide (1 < b) = true := by simpa using h2
    go_enter Try.func58, Try.ntmps58
    go_wp2_with fail
    go_ret
    rw [HN.out]
    exact ⟨rfl, HW.out.wrTo (Below.refl _ _)⟩
  have HN : Aside0 (wAlign L b = (0, L ++ List.replicate (padN L.length) b)) := ⟨by unfold wAlign; rw [if_neg (by omega)]⟩
  have d1 : decide (b < 0) = false := by simpa using h1
  have d2 : decide (1 < b) = false := by simpa using h2
  have hb01 : b = 0 ∨ b = 1 := by omega
  have HB01 := Aside0.mk hb01
  have w1' : IntKind.u8.wrap b = b := by rw [IntKind.wrap_u8]; omega
  have w2' : b % 256 = b := by omega
  clear hb01
  go_enter Try.func58, Try.ntmps58
  go_wp2_with fail
  clear d1 d2
  go_loopw [15] (fun _ wr => ∃ k : Nat, k ≤ padN L.length ∧ Aside0 (RWrTo w S p (L ++ List.replicate k b) wr)) (fun _ wr => L.length + 8 - rbitsIn wr p)
  case atStart => exact ⟨0, Nat.zero_le _, ⟨by rw [List.replicate_zero, List.append_nil]; exact HW.out.wrTo (Below.refl _ _)⟩⟩
  case round =>
    obtain ⟨k, hk, HT⟩ := hrel
    obtain ⟨S1, hw1, hs1, f1⟩ := HT.out
    obtain ⟨v, hblk, hR⟩ := hw1.blk
    obtain ⟨Av, cv, ev⟩ := Kd.R_slice hR
    subst ev
    have hlen : (L ++ List.replicate k b).length = L.length + k := by rw [List.length_append, List.length_replicate]
    have HBI := Aside0.mk hw1.rbits
    rw [hlen] at hR hblk
    have HR := Aside0.mk hR
    have HW1 := Aside0.mk hw1
    have HS1 := Aside0.mk hs1
    have F1 := Aside0.mk f1
    have HK := Aside0.mk hblk
    have c0 := cell_of_one hblk
    have fz := free_of_one hblk
    have HLN := Aside0.mk hlen
    have hkp : k ≤ 8 := by unfold padN at hk; omega
    clear hw1 hs1 f1 hblk hR hlen
    by_cases hlt : k < padN L.length
    · have q1 : decide (0 < ((L.length : Int) + (k : Int)) % 8) = true := by unfold padN at hlt; simp; omega
      go_wp2_with (at_builtin; refine Kd.R_append_row (Value.int .u8) (0 : Int) (w0 := wr) 0 rfl (.tmp 26) (.tmp 29) 22 5 (.int .u8 0) 1 rfl Try.underlying22 binfo rfl (by decide) (.slice Av (L.length + k) cv) (L ++ List.replicate k b) [b] _ _ _ (fun k => S1 k ∨ wr.heap.size ≤ k) rfl rfl ?fresh (Kd.R_alloc (Kd.R_mono HR.out (fun _ hk => .inl hk)) _) (lit_C8 wr [b] (by simp)) ?b0 (Nat.zero_le _) ?len ?_; (case fresh => intro k hk; simp at hk; omega); (case b0 => exact (Below.refl _ _).alloc (Nat.zero_le _) _); (case len => rw [HLN.out]; simp; omega); intro v1 w1 ho hb1 hg hat; obtain ⟨A1, k1, ev1⟩ := Kd.R_slice ho; subst ev1; have hg0 := World.grownBy_alloc wr (.cells (nums .u8 [b]).toArray 5) (Value.slice Av (L.length + k) cv).ownBlock; have hgg : wr.grownBy w1 (Value.slice Av (L.length + k) cv).ownBlock := hg0.trans hg; have hbk := blk_grown HK.out hgg (Kd.R_ne HR.out HK.out (by decide)); have d0 := cell_of_one hbk; have df := free_of_one hbk; have HO1 := Aside0.mk ho; have HG1 := Aside0.mk hgg; clear ho hg hbk hat hb1 hg0 hgg)
      have e1 : (L ++ List.replicate k b ++ [b]).length = L.length + (k + 1) := by rw [List.length_append, HLN.out]; rfl
      have ho := HO1.out
      rw [e1] at ho
      have hst : RWrTo wr S1 p (L ++ List.replicate k b ++ [b]) (w1.setCell ⟨p, 0, none⟩ (.slice A1 (L.length + (k + 1)) k1)) := HW1.out.stored (is01_snoc HW1.out.bits HB01.out) ho HG1.out (fun j hj => HR.out.1 j hj)
      have HST := Aside0.mk hst
      clear ho hst e1
      go_roundw
      case rel =>
        refine ⟨k + 1, by omega, ⟨?_⟩⟩
        have h2 := HST.out
        rw [List.append_assoc, ← List.replicate_succ'] at h2
        exact RWrTo.glue HS1.out F1.out h2
      case measure =>
        obtain ⟨S2, h3, _⟩ := HST.out
        have h4 := h3.rbits
        rw [h4, HBI.out, List.length_append, HLN.out]
        unfold padN at hlt
        simp
        omega
    · obtain rfl : k = padN L.length := by omega
      have q1 : decide (0 < ((L.length : Int) + (padN L.length : Int)) % 8) = false := by unfold padN; simp; omega
      go_wp2_with fail
      go_ret
      rw [HN.out]
      exact ⟨rfl, HT.out⟩

theorem numb_zero (n : Nat) : numb 0 n = List.replicate n 0 := by
  unfold numb
  rw [List.eq_replicate_iff]
  refine ⟨by simp, fun b hb => ?_⟩
  obtain ⟨j, _, rfl⟩ := List.mem_map.1 hb
  simp
/-- append of bytes in a region that draws. -/
theorem step_append8 {ops : Array Oper} {o : Oper} {a : Act} {K : Act → World → Prop} {Q : Exit → Act → World → Prop} {E : Prop} {W : World} {S : Nat → Prop} (hgd : o.guard = none) (s x : Operand)
    (ho : o.op = .call { callee := .builtin .append, args := #[s, x], argTypes := #[22, 22] }) (hty : o.type = 22) (v : Value) (xs ys : List Int) (A : Option Addr) (m c : Nat) (hs : a.eval s = v) (hx : a.eval x = .slice A m c)
    (HO : RB S W v xs) (HR : Kd.C (Kd.int .u8) W A m ys) (hl : xs.length + m ≤ 140737488355328) (h : ∀ v1 w1, RB (fun k => S k ∨ k = W.heap.size) w1 v1 (xs ++ ys) → W.grownBy w1 v.ownBlock → K (a.put o.dst v1) w1) :
    if Region.wanted o (yielded ops a.tmps) = true then Oper.wp Try.prog o a W K Q else E := by
  obtain ⟨v1, w1, hrun, hr, hg⟩ := append_run W v xs ys A m c HO HR hl
  exact step_run_append hgd s x _ ho v _ hs hx (by rw [hty]; exact hrun) (h v1 w1 hr hg)

set_option maxHeartbeats 1000000 in
set_option maxRecDepth 100000 in
theorem RGammaW_any (S : Nat → Prop) (p : Nat) (L : List Int) (v : Int) (w : World) (hW : RWr w S p L) (hL : L.length ≤ 1048576) :
    Calls Try.prog 57 #[.pointer (some ⟨p, 0, none⟩), .int .i64 v] w fun e w' => e = .returned (.int .i64 (wGamma L v).1) ∧ RWrTo w S p (wGamma L v).2 w' := by
  have HW := Aside0.mk hW
  clear hW
  have no : v < 1 ∨ 2097152 ≤ v → Aside0 (wGamma L v = (1, L)) := fun h => ⟨by unfold wGamma; rw [if_pos h]⟩
  by_cases h1 : v < 1
  · have HN := no (.inl h1)
    have d1 : decide (v < 1) = true := by simpa using h1
    clear no
    go_enter Try.func57, Try.ntmps57
    go_wp2_with fail
    go_ret
    rw [HN.out]
    exact ⟨rfl, HW.out.wrTo (Below.refl _ _)⟩
  by_cases h2 : 2097151 < v
  · have HN := no (.inr (by omega))
    have d1 : decide (v < 1) = false := by simpa using h1
    have d2 : decide (2097151 < v) = true := by simpa using h2
    clear no
    go_enter Try.func57, Try.ntmps57
    go_wp2_with fail
    go_ret
    rw [HN.out]
    exact ⟨rfl, HW.out.wrTo (Below.refl _ _)⟩
  have d1 : decide (v < 1) = false := by simpa using h1
  have d2 : decide (2097151 < v) = false := by simpa using h2
  have HN : Aside0 (wGamma L v = wput L (numb 0 (lg v) ++ numb v (lg v + 1))) := ⟨by unfold wGamma; rw [if_neg (by omega)]⟩
  clear no
  go_enter Try.func57, Try.ntmps57
  go_wp2_with fail
  clear d1 d2
  go_loop [5] (fun u => ∃ k : Nat, u = .int .i64 (k : Int) ∧ k ≤ 20 ∧ 2 ^ k ≤ v) (fun u => 21 - (intOf u).toNat)
  case atStart => exact ⟨0, rfl, by omega, by simp; omega⟩
  case round =>
    obtain ⟨k, rfl, hk, hv⟩ := hrel
    have hpk := pow_step k
    have hp1 : (0 : Int) < 2 ^ (k + 1) := Int.pow_pos (by omega)
    have hp0 : (0 : Int) < 2 ^ k := Int.pow_pos (by omega)
    have hp32 := pow_le32 (m := k + 1) (by omega)
    have e1 : wrap64 (2 ^ (k + 1)) = 2 ^ (k + 1) := wrap64_id (by omega) (by omega)
    by_cases hlt : 2 ^ (k + 1) ≤ v
    · have hk20 : k < 20 := by
        apply Nat.lt_of_not_le
        intro h
        have := pow_le_of 21 (k + 1) (by omega)
        omega
      have HV := Aside0.mk hlt
      have d3 : decide (2 ^ (k + 1) ≤ v) = true := by simpa using hlt
      have d4 : decide (wrap64 (2 ^ (k + 1)) ≤ v) = true := by rw [e1]; simpa using hlt
      clear hpk hp1 hp0 hlt hv hp32 e1
      go_wp2_with fail
      go_round
      case rel => exact ⟨k + 1, by go_num, by omega, HV.out⟩
      case measure => simp [intOf]; omega
    · have hlg := lg_of hv (by omega)
      have d3 : decide (2 ^ (k + 1) ≤ v) = false := by simpa using hlt
      have d4 : decide (wrap64 (2 ^ (k + 1)) ≤ v) = false := by rw [e1]; simpa using hlt
      have hlv : v ≤ 9223372036854775807 := by omega
      have hv0 : 0 ≤ v := by omega
      rw [hlg] at HN
      clear hpk hp1 hp0 hlt hv hlg hp32 e1
      go_wp2_with fail
      clear d3 d4
      have w1' : IntKind.i64.wrap ((k : Int) + 1) = (k : Int) + 1 := IntWalk.i64_in _ (by omega)
      have hmk := print_make_of (P := Try.prog) 22 5 (.int .u8 0) 1 Try.underlying22 binfo rfl (by decide) k (by omega)
      have hm8 := fun W : World => made8 W k (by omega)
      have HM8 := Aside0.mk hm8
      clear hm8
      go_region_held3 (fun _ => True) (exact trivial)
        (first
          | (go_at_call 74; refine (Number_any v (k + 1) _ hv0 hlv (by omega)).mono ?_; rintro e w1 ⟨g1, S1, rfl, hr, hs, hb⟩; obtain ⟨A1, c1, hv1, _, hC1⟩ := Kd.R_reads hr; rw [numb_length] at hv1 hC1; cases hv1; have HB1 := Aside0.mk hb; (first | (have HM := Aside0.mk (Kd.R_below (HM8.out w.drew) hb); have HC1 := Aside0.mk hC1; have HBW := Aside0.mk ((below_drew (below_alloc (Below.refl w.heap.size w) (.cells (madeCells #[.int .u8 0] k) 5))).trans (hb.mono (by simp)))) | (have HM := Aside0.mk (HM8.out w1); have HC1 := Aside0.mk (Kd.C_alloc hC1 (.cells (madeCells #[.int .u8 0] k) 5)); have HBW := Aside0.mk (((below_drew (Below.refl w.heap.size w)).trans (hb.mono (by simp))).alloc (Below.size ((below_drew (Below.refl w.heap.size w)).trans (hb.mono (by simp)))) (.cells (madeCells #[.int .u8 0] k) 5)))); clear hr hs hC1 hb)
          | (refine step_append8 (by rfl) _ _ (by rfl) (by rfl) _ (List.replicate k 0) (numb v (k + 1)) _ _ _ (by rfl) (by rfl) HM.out HC1.out (by simp; omega) ?_; intro v2 w2 hr2 hg2; rw [← numb_zero k] at hr2; obtain ⟨A2, c2, hv2, _, hC2⟩ := Kd.R_reads hr2; rw [List.length_append, numb_length, numb_length] at hv2 hC2; subst hv2; have HC2 := Aside0.mk hC2; have HB2 := Aside0.mk (HBW.out.grown hg2 HBW.out.size (fun j hj => by simp [Value.ownBlock] at hj; (first | omega | (have := HB1.out.size; simp at this; omega)))); clear hr2 hg2 hC2)
          | (go_at_call 73; refine (RefPut_any S p L (numb 0 k ++ numb v (k + 1)) _ _ _ _ (HW.out.below HB2.out) HC2.out (is01_append (numb_01 _ _) (numb_01 _ _)) hL (by omega)).mono ?_; rintro e w3 ⟨rfl, h3⟩; have H3 := Aside0.mk h3; clear h3))
      all_goals
        go_wp2_with fail
        go_ret
        rw [HN.out]
        exact ⟨rfl, RWrTo.glue (fun k hk => .inl hk) (Fr.below HB2.out _) H3.out⟩
end Go.Proofs.Ytmjekkkpbcehoaa.P
