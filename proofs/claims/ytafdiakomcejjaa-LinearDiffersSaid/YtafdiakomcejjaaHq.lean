/- The contract of the reference's Add. -/
import Derived.Test.YtafdiakomcejjaaQe
import Derived.Test.YtafdiakomcejjaaQf
import Derived.Deep.DeepCutAuto
namespace Go.Proofs.Ytafdiakomcejjaa.P
open Go.RowKit Go.Shelf Go.Proofs.YtafdiakomcejjaaW.PrintWords Go.Proofs.YtafdiakomcejjaaW.PrintLast Go.Proofs.YtafdiakomcejjaaW.PrintMore
set_option linter.unusedVariables false
set_option linter.unusedSimpArgs false
attribute [local go_sem ↓] Go.wp_at_zero Go.wp_at_succ

def shawmref14_Add.f (k : Nat) (l0 : List Int) (a1 : Int) : Option (List Int × Int) :=
  if l0.length ≤ 9223372036854775807 then
    (if a1 < 0 ∨ 4 < a1 then some ([], 1) else if chk l0 67108864 = 0 then some (added (rowOf a1.toNat) [] l0) else some ([], chk l0 67108864))
  else none
theorem shawmref14_Add.mono : ∀ a0 a1 k, LeO (shawmref14_Add.f k a0 a1) (shawmref14_Add.f (k + 1) a0 a1) := fun _ _ _ => LeO.refl _

theorem lit_at (X : World) (n : Nat) (hn : X.heap.size = n) (xs : List Int) (hm : xs.length ≤ 9223372036854775807) : Kd.C (Kd.int .i64) (X.alloc (.cells (nums .i64 xs).toArray 3)) (some ⟨n, 0, none⟩) xs.length xs := by
  subst hn
  obtain ⟨A, c, e, _, hC⟩ := Kd.R_reads (Kd.R_of_own (ok := fun _ => True) (own_lit_of (enc := fun x => Value.int .i64 x) X X.heap.size 3 xs (Nat.le_refl _) hm) (fun _ _ => trivial))
  cases e
  exact hC
theorem sz_alloc (W : World) (o : Obj) (n : Nat) (h : W.heap.size = n) : (W.alloc o).heap.size = n + 1 := by rw [← h]; exact Array.size_push _

set_option maxHeartbeats 4000000 in
set_option maxRecDepth 100000 in
theorem ref_add_yes (A0 : Option Addr) (c0 : Nat) (l0 : List Int) (k : Nat) (w : World) (hr0 : Kd.C (Kd.int .i64) w A0 l0.length l0) (hc0 : l0.length ≤ c0) (hk : k ≤ 4) (hz : chk l0 67108864 = 0) (r1 : List Int) (r2 : Int) (h : added (rowOf k) [] l0 = (r1, r2)) :
    Calls Try.prog 14 #[.slice A0 l0.length c0, .int .i64 k] w fun e w' => ∃ v0_ : Value, e = .returned (.tuple #[v0_, .int .i64 r2]) ∧ Kd.R (Kd.int .i64) 3 w' w.heap.size (fun _ => True) v0_ r1 ∧ Below w.heap.size w w' := by
  obtain ⟨hlen, hwi⟩ := chk_zero hz
  have HR := Aside0.mk hr0
  have HZ := Aside0.mk hz
  have HW := Aside0.mk hwi
  have HH := Aside0.mk h
  have HSM := Aside0.mk (rowOf_small k hk)
  clear hr0 hz hwi h
  have hd1 : decide ((k : Int) < 0) = false := by simp
  have hd2 : decide ((4 : Int) < (k : Int)) = false := by simp; omega
  go_enter Try.func14, Try.ntmps14
  go_upto_region 6 with (go_at_call 27; refine (shawmref14_list.calls 9000 A0 c0 l0 67108864 0 _ HR.out hc0 (by rw [list_f l0 67108864 (by omega) (by omega) 9000 (by omega), HZ.out])).mono ?_; rintro e w1 ⟨rfl, hb1⟩; have HB1 := Aside0.mk hb1.below; clear hb1)
  go_cut [7] (fun s7 wx => ∃ Ar cr, s7 = .slice Ar (rowOf k).length cr ∧ Aside0 (Kd.C (Kd.int .i64) wx Ar (rowOf k).length (rowOf k)) ∧ Aside0 (Below w.heap.size w wx))
  case first =>
    match k, hk with
    | 0, _ => go_wp2_with fail; go_meet; exact ⟨_, _, rfl, ⟨Kd.C_alloc (Kd.C_alloc (Kd.C_alloc (Kd.C_alloc (Kd.C_alloc (lit_at w1 _ rfl [] (by decide)) _) _) _) _) _⟩, ⟨by (repeat (first | with_reducible exact Below.refl _ _ | (refine Aside0.out (p := Below _ _ _) ?_; assumption) | refine below_drew ?_ | refine below_alloc ?_ _ | (refine below_step ?_ (Aside0.out (p := Below _ _ _) (by assumption)))))⟩⟩
    | 1, _ => go_wp2_with fail; go_meet; exact ⟨_, _, rfl, ⟨Kd.C_alloc (Kd.C_alloc (Kd.C_alloc (Kd.C_alloc (lit_at _ _ (sz_alloc _ _ _ rfl) [1] (by decide)) _) _) _) _⟩, ⟨by (repeat (first | with_reducible exact Below.refl _ _ | (refine Aside0.out (p := Below _ _ _) ?_; assumption) | refine below_drew ?_ | refine below_alloc ?_ _ | (refine below_step ?_ (Aside0.out (p := Below _ _ _) (by assumption)))))⟩⟩
    | 2, _ => go_wp2_with fail; go_meet; exact ⟨_, _, rfl, ⟨Kd.C_alloc (Kd.C_alloc (Kd.C_alloc (lit_at _ _ (sz_alloc _ _ _ (sz_alloc _ _ _ rfl)) [2, -1] (by decide)) _) _) _⟩, ⟨by (repeat (first | with_reducible exact Below.refl _ _ | (refine Aside0.out (p := Below _ _ _) ?_; assumption) | refine below_drew ?_ | refine below_alloc ?_ _ | (refine below_step ?_ (Aside0.out (p := Below _ _ _) (by assumption)))))⟩⟩
    | 3, _ => go_wp2_with fail; go_meet; exact ⟨_, _, rfl, ⟨Kd.C_alloc (Kd.C_alloc (lit_at _ _ (sz_alloc _ _ _ (sz_alloc _ _ _ (sz_alloc _ _ _ rfl))) [3, -3, 1] (by decide)) _) _⟩, ⟨by (repeat (first | with_reducible exact Below.refl _ _ | (refine Aside0.out (p := Below _ _ _) ?_; assumption) | refine below_drew ?_ | refine below_alloc ?_ _ | (refine below_step ?_ (Aside0.out (p := Below _ _ _) (by assumption)))))⟩⟩
    | 4, _ => go_wp2_with fail; go_meet; exact ⟨_, _, rfl, ⟨Kd.C_alloc (lit_at _ _ (sz_alloc _ _ _ (sz_alloc _ _ _ (sz_alloc _ _ _ (sz_alloc _ _ _ rfl)))) [4, -6, 4, -1] (by decide)) _⟩, ⟨by (repeat (first | with_reducible exact Below.refl _ _ | (refine Aside0.out (p := Below _ _ _) ?_; assumption) | refine below_drew ?_ | refine below_alloc ?_ _ | (refine below_step ?_ (Aside0.out (p := Below _ _ _) (by assumption)))))⟩⟩
  case rest =>
    obtain ⟨Ar, cr, rfl, HROW, HBW⟩ := hcut
    obtain ⟨row, hrow⟩ : ∃ r, r = rowOf k := ⟨_, rfl⟩
    rw [← hrow] at HROW HSM HH ⊢
    have HROWE := Aside0.mk hrow
    clear hrow
    have HRC := Aside0.mk (Kd.C_below HR.out HBW.out)
    go_wp2_with fail
    go_loopw [8, 9, 10, 11, 12, 35] (fun v _ _ _ _ u wr => ∃ (i : Nat) (L : List Int), i ≤ l0.length ∧ u = .int .i64 i ∧ Aside0 (L.length = i) ∧ Aside0 (within 2097152 L) ∧ Aside0 (added row L (l0.drop i) = (r1, r2)) ∧ Aside0 (Kd.R (Kd.int .i64) 3 wr wc.heap.size (fun _ => True) v L) ∧ Aside0 (Below wc.heap.size wc wr)) (fun _ _ _ _ _ u _ => l0.length - (intOf u).toNat)
    case atStart => exact ⟨0, [], Nat.zero_le _, rfl, ⟨rfl⟩, ⟨fun x hx => by cases hx⟩, ⟨by rw [List.drop_zero]; exact HH.out⟩, ⟨Kd.R_nil _ _ _ _ _⟩, ⟨Below.refl _ _⟩⟩
    case round =>
      obtain ⟨i, L, hi, rfl, HL, HLW, HE, HO, HB⟩ := hrel
      obtain ⟨Av, cv, hv, hcv, hCv⟩ := Kd.R_reads HO.out
      rw [HL.out] at hv hcv hCv
      cases hv
      have HCv := Aside0.mk hCv
      clear hCv
      by_cases hlt : i < l0.length
      · have hsz := HB.out.size
        obtain ⟨ad, e, hx⟩ := Kd.at_int (Kd.C_below HRC.out HB.out) (i : Int) (by omega) (by omega)
        cases e
        rw [Int.toNat_natCast] at hx
        have bx := within_rd HW.out (by omega) (i : Int)
        have hE := HE.out
        rw [drop_head l0 i hlt] at hE
        obtain ⟨x, hxx⟩ : ∃ x, x = rd l0 (i : Int) := ⟨_, rfl⟩
        rw [← hxx] at hx bx hE
        have HE1 := Aside0.mk hE
        have i1 : (0 : Int) ≤ (i : Int) := by omega
        have i2 : (i : Int) < (l0.length : Int) := by omega
        have hrl := HSM.out.2
        clear hxx hE
        go_wp2_with fail
        obtain ⟨wo, rfl⟩ : ∃ wo : World, wo = wr := ⟨_, rfl⟩
        go_loop [10, 11, 12, 42] (fun s _ _ u => ∃ j : Nat, j ≤ row.length ∧ u = .int .i64 j ∧ s = .int .i64 (x + dacc row L (i : Int) j)) (fun _ _ _ u => row.length - (intOf u).toNat)
        case atStart => exact ⟨0, Nat.zero_le _, rfl, by simp [dacc]⟩
        case round =>
          obtain ⟨j, hj, rfl, rfl⟩ := hrel
          have db := dacc_bound HLW.out HSM.out.1 (i : Int) j
          by_cases hjl : j < row.length
          · obtain ⟨ar, e, hr⟩ := Kd.at_int (Kd.C_below HROW.out HB.out) (j : Int) (by omega) (by omega)
            cases e
            rw [Int.toNat_natCast] at hr
            have db1 := dacc_bound HLW.out HSM.out.1 (i : Int) (j + 1)
            have hs : dacc row L (i : Int) (j + 1) = dacc row L (i : Int) j + rd row (j : Int) * ex L ((i : Int) - 1 - (j : Int)) := rfl
            have hc := within_rd (B := 6) HSM.out.1 (by omega) (j : Int)
            have j1 : (0 : Int) ≤ (j : Int) := by omega
            have j2 : (j : Int) < (row.length : Int) := by omega
            have w1' : IntKind.i64.wrap ((i : Int) - 1) = (i : Int) - 1 := IntWalk.i64_in _ (by omega)
            have w2' : IntKind.i64.wrap ((i : Int) - 1 - (j : Int)) = (i : Int) - 1 - (j : Int) := IntWalk.i64_in _ (by omega)
            by_cases hji : j < i
            · have hm := mul_bound hc (within_rd HLW.out (by omega) ((i : Int) - 1 - (j : Int)))
              obtain ⟨av, e2, hcx⟩ := Kd.at_int HCv.out ((i : Int) - 1 - (j : Int)) (by omega) (by omega)
              cases e2
              have he : ex L ((i : Int) - 1 - (j : Int)) = rd L ((i : Int) - 1 - (j : Int)) := by unfold ex; rw [if_neg (by omega)]
              rw [he] at hs
              rw [hs] at db1
              have HS := Aside0.mk hs
              have q1 : decide ((0 : Int) ≤ (i : Int) - 1 - (j : Int)) = true := by simp; omega
              have i3 : (0 : Int) ≤ (i : Int) - 1 - (j : Int) := by omega
              have i4 : (i : Int) - 1 - (j : Int) < (i : Int) := by omega
              have i5 : (j : Int) ≤ (i : Int) - 1 := by omega
              obtain ⟨z, hz⟩ : ∃ z, z = rd row (j : Int) := ⟨_, rfl⟩
              obtain ⟨y, hy⟩ : ∃ y, y = rd L ((i : Int) - 1 - (j : Int)) := ⟨_, rfl⟩
              rw [← hz, ← hy] at hm db1 HS
              rw [← hz] at hr
              rw [← hy] at hcx
              obtain ⟨s0, hs0⟩ : ∃ s0, s0 = dacc row L (i : Int) j := ⟨_, rfl⟩
              rw [← hs0] at HS db db1 ⊢
              have w3' : IntKind.i64.wrap (z * y) = z * y := IntWalk.i64_in _ (by omega)
              have w4' : IntKind.i64.wrap (x + s0 + z * y) = x + s0 + z * y := IntWalk.i64_in _ (by omega)
              have hcx' : wo.cell? (av.add (i - 1 - j)) = some (.int .i64 y) := by rw [← hcx, show ((i : Int) - 1 - (j : Int)).toNat = i - 1 - j by omega]
              clear hs hz hy hcx he hs0
              go_wp2_with fail
              go_round
              case rel => exact ⟨j + 1, by omega, by go_num, by rw [HS.out, Int.add_assoc]⟩
              case measure => simp [intOf]; omega
            · have he : ex L ((i : Int) - 1 - (j : Int)) = 0 := by unfold ex; rw [if_pos (by omega)]
              rw [he, Int.mul_zero, Int.add_zero] at hs
              have HS := Aside0.mk hs
              have q1 : decide ((0 : Int) ≤ (i : Int) - 1 - (j : Int)) = false := by simp; omega
              have i5 : ¬ (j : Int) ≤ (i : Int) - 1 := by omega
              clear hs he
              go_wp2_with fail
              go_round
              case rel => exact ⟨j + 1, by omega, by go_num, by rw [HS.out]⟩
              case measure => simp [intOf]; omega
          · obtain rfl : j = row.length := by omega
            have hE := HE1.out
            unfold added at hE
            rw [recF] at hE
            simp only [HL.out] at hE
            rw [dacc_all] at db ⊢
            obtain ⟨z, hz⟩ : ∃ z, z = x + dotr row L (i : Int) := ⟨_, rfl⟩
            rw [← hz] at hE ⊢
            clear hz
            by_cases hlo : z < -2097152
            · have q1 : decide (z < -2097152) = true := by simpa using hlo
              rw [if_pos (Or.inl hlo)] at hE
              have HE2 := Aside0.mk hE
              clear hE
              go_wp2_with fail
              try rw [Exit.noGoto_ret]
              go_ret2
              have h1 := HE2.out
              simp only [Prod.mk.injEq] at h1
              obtain ⟨rfl, rfl⟩ := h1
              exact ⟨_, rfl, Kd.R_nil _ _ _ _ _, below_step HBW.out HB.out⟩
            · have q1 : decide (z < -2097152) = false := by simpa using hlo
              by_cases hhi : 2097152 < z
              · have q2 : decide (2097152 < z) = true := by simpa using hhi
                rw [if_pos (Or.inr hhi)] at hE
                have HE2 := Aside0.mk hE
                clear hE
                go_wp2_with fail
                try rw [Exit.noGoto_ret]
                go_ret2
                have h1 := HE2.out
                simp only [Prod.mk.injEq] at h1
                obtain ⟨rfl, rfl⟩ := h1
                exact ⟨_, rfl, Kd.R_nil _ _ _ _ _, below_step HBW.out HB.out⟩
              · have q2 : decide (2097152 < z) = false := by simpa using hhi
                rw [if_neg (by omega)] at hE
                have HE2 := Aside0.mk hE
                clear hE
                go_wp2_with (at_builtin; refine Kd.R_append (Kd.int .i64) (w0 := wc) wc.heap.size rfl (.tmp 70) (.tmp 72) 22 3 (.int .i64 0) 8 rfl Try.underlying22 hinfo3 rfl (by decide) (by omega) _ L z [.int .i64 z] (fun _ => True) (fun _ => False) rfl rfl rfl (fun _ hk => hk.elim) (fun _ _ => trivial) HO.out HB.out HB.out.size (by rw [HL.out]; omega) ?_; intro v9 w9 ho hb hg hat; have HO9 := Aside0.mk ho; have HB9 := Aside0.mk hb; clear ho hb hg hat)
                go_roundw
                case rel =>
                  refine ⟨i + 1, L ++ [z], by omega, by go_num, ⟨by rw [List.length_append, HL.out]; rfl⟩, ⟨fun t ht => ?_⟩, HE2, HO9, HB9⟩
                  rcases List.mem_append.1 ht with ht | ht
                  · exact HLW.out t ht
                  · obtain rfl := List.mem_singleton.1 ht
                    omega
                case measure => simp [intOf]; omega
      · obtain rfl : i = l0.length := by omega
        have hE := HE.out
        rw [List.drop_length] at hE
        unfold added at hE
        rw [recF] at hE
        have HE2 := Aside0.mk hE
        clear hE
        go_wp2_with fail
        go_ret2
        have h1 := HE2.out
        simp only [Prod.mk.injEq] at h1
        obtain ⟨rfl, rfl⟩ := h1
        exact ⟨_, rfl, Kd.R_lower HO.out (below_size HBW.out), below_step HBW.out HB.out⟩

set_option maxHeartbeats 1000000 in
theorem shawmref14_Add.calls (k : Nat) (A0 : Option Addr) (c0 : Nat) (l0 : List Int) (a1 : Int) (r1 : List Int) (r2 : Int) (w : World) (hr0 : Kd.C (Kd.int .i64) w A0 l0.length l0) (hc0 : l0.length ≤ c0) (h : shawmref14_Add.f k l0 a1 = some (r1, r2)) :
    Calls Try.prog 14 #[.slice A0 l0.length c0, .int .i64 a1] w fun e w' => ∃ v0_ : Value, e = .returned (.tuple #[v0_, .int .i64 r2]) ∧ Kd.R (Kd.int .i64) 3 w' w.heap.size (fun _ => True) v0_ r1 ∧ Below w.heap.size w w' := by
  unfold shawmref14_Add.f at h
  split at h
  · rename_i hl
    split at h
    · rename_i hk
      simp only [Option.some.injEq, Prod.mk.injEq] at h
      obtain ⟨rfl, rfl⟩ := h
      rcases hk with hk | hk
      · have hd1 : decide (a1 < 0) = true := by simpa using hk
        go_enter Try.func14, Try.ntmps14
        go_wp2
        go_ret2
        exact ⟨_, rfl, Kd.R_nil _ _ _ _ _, Below.refl _ _⟩
      · have hd1 : decide (a1 < 0) = false := by simp; omega
        have hd2 : decide (4 < a1) = true := by simpa using hk
        go_enter Try.func14, Try.ntmps14
        go_wp2
        go_ret2
        exact ⟨_, rfl, Kd.R_nil _ _ _ _ _, Below.refl _ _⟩
    · rename_i hk
      split at h
      · rename_i hz
        obtain ⟨n, rfl⟩ : ∃ n : Nat, a1 = n := ⟨a1.toNat, by omega⟩
        rw [Int.toNat_natCast] at h
        exact ref_add_yes A0 c0 l0 n w hr0 hc0 (by omega) hz r1 r2 (Option.some.inj h)
      · rename_i hz
        simp only [Option.some.injEq, Prod.mk.injEq] at h
        obtain ⟨rfl, rfl⟩ := h
        have HR := Aside0.mk hr0
        clear hr0
        have hd1 : decide (a1 < 0) = false := by simp; omega
        have hd2 : decide (4 < a1) = false := by simp; omega
        obtain ⟨q, hq⟩ : ∃ q, q = chk l0 67108864 := ⟨_, rfl⟩
        rw [← hq] at hz ⊢
        have HQ := Aside0.mk hq
        clear hq
        have hz1 : (q != 0) = true := by simpa using hz
        have hz2 : (q == 0) = false := by simpa using hz
        go_enter Try.func14, Try.ntmps14
        go_wp2_with (go_at_call 27; refine (shawmref14_list.calls 9000 A0 c0 l0 67108864 q _ HR.out hc0 (by rw [list_f l0 67108864 (by omega) (by omega) 9000 (by omega), HQ.out])).mono ?_; rintro e w1 ⟨rfl, hb1⟩; have HB1 := Aside0.mk hb1.below; clear hb1)
        go_ret2
        exact ⟨_, rfl, Kd.R_nil _ _ _ _ _, HB1.out⟩
  · cases h
end Go.Proofs.Ytafdiakomcejjaa.P
