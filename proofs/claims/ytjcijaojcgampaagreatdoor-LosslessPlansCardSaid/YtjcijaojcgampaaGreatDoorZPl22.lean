/- Contracts of linear.check, linear.isFilter, slices.Clone at []int. -/
import Derived.WalkSpells
import Derived.Test.YtjcijaojcgampaaGreatDoorZPl21
import Derived.Test.YtjcijaojcgampaaGreatDoorZPl3
import Derived.Test.YtjcijaojcgampaaGreatDoorZPl2
set_option linter.unusedVariables false
set_option linter.unusedSimpArgs false
set_option maxHeartbeats 16000000
set_option maxRecDepth 100000
namespace Go.Proofs.YtjcijaojcgampaaGreatDoor.P.Lin
open Go.RowKit Go.Proofs.YtjcijaojcgampaaGreatDoorW.PrintWords Go.Proofs.YtjcijaojcgampaaGreatDoorW.PrintLast Go.Proofs.YtjcijaojcgampaaGreatDoorW.PrintMore
theorem hinfo3 : (Tryz.prog.info? 3).map (fun i => (i.zero, i.size, i.bytes)) = some (some (.int .i64 0), 1, 8) := by kernel_rfl
def chk (l : List Int) (m : Int) : Int := if 8192 < l.length then 2 else if l.any (outB m) then 6 else 0
def linear_check.f (l0 : List Int) (a1 : Int) : Option (Int) := if 0 ≤ a1 ∧ a1 ≤ 4611686018427387904 ∧ l0.length ≤ 9223372036854775807 then some (chk l0 a1) else none
theorem linear_check.calls (A0 : Option Addr) (c0 : Nat) (l0 : List Int) (a1 : Int) (r : Int) (w : World) (hr0 : Kd.C (Kd.int .i64) w A0 l0.length l0) (hc0 : l0.length ≤ c0) (h : linear_check.f l0 a1 = some r) :
    Calls Tryz.prog 128 #[.slice A0 l0.length c0, .int .i64 a1] w fun e w' => e = .returned (.int .i64 r) ∧ Below w.heap.size w w' := by
  unfold linear_check.f at h
  split at h
  · rename_i hh
    obtain ⟨h0, h1, h2⟩ := hh
    have HE := Aside0.mk (Option.some.inj h)
    have HR := Aside0.mk hr0
    clear h hr0
    by_cases hl : 8192 < l0.length
    · have HF : Aside0 (r = 2) := ⟨by rw [← HE.out, chk, if_pos hl]⟩
      have hd : decide ((8192 : Int) < (l0.length : Int)) = true := by simp; omega
      go_enter Tryz.func128, Tryz.ntmps128
      go_wp2
      go_ret
      exact ⟨by rw [HF.out]; rfl, (Below.refl _ _).alloc (Nat.le_refl _) _⟩
    · have hd : decide ((8192 : Int) < (l0.length : Int)) = false := by simp; omega
      cases hp : l0.any (outB a1) with
      | true =>
        have HF : Aside0 (r = 6) := ⟨by rw [← HE.out, chk, if_neg hl, if_pos hp]⟩
        have HP := Aside0.mk hp
        clear hp
        go_enter Tryz.func128, Tryz.ntmps128
        go_wp2_with (go_at_call 158; refine (containsFunc_check _ a1 A0 c0 l0 _ (Kd.C_alloc HR.out _) h2 h0 h1 (by simp)).mono ?_; rintro e w' ⟨rfl, rfl⟩; rw [HP.out])
        go_ret
        exact ⟨by rw [HF.out]; rfl, (Below.refl _ _).alloc (Nat.le_refl _) _⟩
      | false =>
        have HF : Aside0 (r = 0) := ⟨by rw [← HE.out, chk, if_neg hl, if_neg (by simp [hp])]⟩
        have HP := Aside0.mk hp
        clear hp
        go_enter Tryz.func128, Tryz.ntmps128
        go_wp2_with (go_at_call 158; refine (containsFunc_check _ a1 A0 c0 l0 _ (Kd.C_alloc HR.out _) h2 h0 h1 (by simp)).mono ?_; rintro e w' ⟨rfl, rfl⟩; rw [HP.out])
        go_ret
        exact ⟨by rw [HF.out]; rfl, (Below.refl _ _).alloc (Nat.le_refl _) _⟩
  · cases h
def isF (l : List Int) : Bool := decide (l.length ≤ 12) && !l.any (outB 127)
def linear_isFilter.f (l0 : List Int) : Option (Bool) := some (isF l0)
theorem linear_isFilter.calls (A0 : Option Addr) (c0 : Nat) (l0 : List Int) (r : Bool) (w : World) (hr0 : Kd.C (Kd.int .i64) w A0 l0.length l0) (hc0 : l0.length ≤ c0) (h : linear_isFilter.f l0 = some r) :
    Calls Tryz.prog 136 #[.slice A0 l0.length c0] w fun e w' => e = .returned (.bool r) ∧ Drawn0 w w' := by
  have HE := Aside0.mk (Option.some.inj h)
  have HR := Aside0.mk hr0
  clear h hr0
  by_cases hl : l0.length ≤ 12
  · have hd : decide ((l0.length : Int) ≤ 12) = true := by simp; omega
    have HF : Aside0 (r = !l0.any (outB 127)) := ⟨by rw [← HE.out, isF]; simp [hl]⟩
    go_enter Tryz.func136, Tryz.ntmps136
    go_wp2_with (go_at_call 158; refine (containsFunc_filter A0 c0 l0 _ HR.out (by omega)).mono ?_; rintro e w' ⟨rfl, rfl⟩)
    go_ret
    exact ⟨by rw [HF.out]; rfl, Drawn0.refl _⟩
  · have hd : decide ((l0.length : Int) ≤ 12) = false := by simp; omega
    have HF : Aside0 (r = false) := ⟨by rw [← HE.out, isF]; simp [hl]⟩
    go_enter Tryz.func136, Tryz.ntmps136
    go_wp2
    go_ret
    exact ⟨by rw [HF.out]; rfl, Drawn0.refl _⟩
def slices_Clone_int_int.f (l0 : List Int) : Option (List Int) := if l0.length ≤ 17592186044416 then some l0 else none
theorem slices_Clone_int_int.calls (A0 : Option Addr) (c0 : Nat) (l0 : List Int) (r : List Int) (w : World) (hr0 : Kd.C (Kd.int .i64) w A0 l0.length l0) (hc0 : l0.length ≤ c0) (h : slices_Clone_int_int.f l0 = some r) :
    Calls Tryz.prog 171 #[.slice A0 l0.length c0] w fun e w' => ∃ v0_ : Value, e = .returned v0_ ∧ Kd.R (Kd.int .i64) 3 w' w.heap.size (fun _ => True) v0_ r ∧ Below w.heap.size w w' := by
  unfold slices_Clone_int_int.f at h
  split at h
  · rename_i hh
    obtain rfl := Option.some.inj h
    clear h
    have qT : ∀ (w : World) (a : Option Addr) (n c n' c' : Nat), (binOp .eql 22 (.slice a n c) (.slice none n' c')).run Tryz.prog w = .ok (.bool a.isNone) w := fun w a n c n' c' => Lib.run_eql_slice_nil w _ _ a n c n' c' Tryz.underlying22
    cases A0 with
    | none =>
      have hz : l0 = [] := by
        rcases Nat.eq_zero_or_pos l0.length with h | h
        · exact List.eq_nil_of_length_eq_zero h
        · obtain ⟨ad, e, _⟩ := Kd.at_int hr0 0 (by omega) (by omega)
          cases e
      subst hz
      go_enter Tryz.func171, Tryz.ntmps171
      go_wp2
      go_ret
      exact ⟨_, rfl, Kd.R_nil _ _ _ _ _, Below.refl _ _⟩
    | some ad =>
      have HR := Aside0.mk hr0
      clear hr0
      have HB := Aside0.mk (Below.refl w.heap.size w)
      go_enter Tryz.func171, Tryz.ntmps171
      go_wp2_with (first
        | ((with_reducible refine gate_dst (N := 5) rfl ?_); refine Kd.R_lit (Kd.int .i64) _ 3 ?hg (N := 5) ?hd (xs := ([] : List Int)) (inner := []) (ok := fun _ => True) (okp := fun _ => True) ?hr ?hp (fun _ hk => hk) trivial HB.out (Nat.le_refl _) (by simp) ?_; (case hd => rfl); (case hg => rfl); (case hr => first | (go_simp; done) | (go_simp; rfl)); (case hp => exact (Reps.none _ _)); intro v1 w1 ho hb hg_ hnew_; have HO1 := Aside0.mk ho; have HB1 := Aside0.mk hb; clear ho hb hg_ hnew_)
        | (at_builtin; refine Kd.R_append_row (Value.int .i64) (0 : Int) (w0 := w) w.heap.size rfl (.tmp 5) (.tmp 6) 22 3 (.int .i64 0) 8 rfl Tryz.underlying22 hinfo3 rfl (by decide) v1 [] l0 _ _ _ (fun _ => True) rfl rfl (fun _ _ => trivial) HO1.out (Kd.C_below HR.out HB1.out) HB1.out (HB1.out.size) (by simp; omega) ?_; intro v2 w2 ho hb hg_ hat; have HO2 := Aside0.mk ho; have HB2 := Aside0.mk hb; clear ho hb hg_ hat))
      go_ret
      exact ⟨_, rfl, HO2.out, HB2.out⟩
  · cases h
end Go.Proofs.YtjcijaojcgampaaGreatDoor.P.Lin
