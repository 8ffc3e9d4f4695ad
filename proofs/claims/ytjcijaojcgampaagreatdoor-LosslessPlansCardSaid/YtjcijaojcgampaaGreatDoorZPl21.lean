/- Contracts of check, isFilter and what they call (slices.ContainsFunc, slices.IndexFunc, closures). -/
import Derived.Test.YtjcijaojcgampaaGreatDoorProg
import Derived.WalkKit
import Derived.Below
import Derived.Test.YtjcijaojcgampaaGreatDoorZPl1
set_option linter.unusedVariables false
set_option linter.unusedSimpArgs false
set_option maxHeartbeats 16000000
set_option maxRecDepth 100000
namespace Go.Proofs.YtjcijaojcgampaaGreatDoor.P.Lin
open Go.RowKit Go.Proofs.YtjcijaojcgampaaGreatDoorW.PrintWords
def outB (m x : Int) : Bool := decide (x < -m) || decide (m < x)
theorem check_closure (b : Nat) (m x : Int) (w : World) (h0 : 0 ≤ m) (h1 : m ≤ 4611686018427387904) (hc : w.cell? ⟨b, 0, none⟩ = some (.int .i64 m)) :
    Calls Tryz.prog 159 #[.int .i64 x, .pointer (some ⟨b, 0, none⟩)] w fun e w' => e = .returned (.bool (outB m x)) ∧ w = w' := by
  by_cases hx : x < -m
  · have H : outB m x = true := by simp [outB, hx]
    have H' := Aside0.mk H
    clear H
    have hd : decide (x < -m) = true := by simpa using hx
    go_enter Tryz.func159, Tryz.ntmps159
    go_wp2
    go_ret
    exact ⟨by rw [H'.out]; rfl, rfl⟩
  · have H : outB m x = decide (m < x) := by simp [outB, hx]
    have H' := Aside0.mk H
    clear H
    have hd : decide (x < -m) = false := by simpa using hx
    go_enter Tryz.func159, Tryz.ntmps159
    go_wp2
    go_ret
    exact ⟨by rw [H'.out]; rfl, rfl⟩
theorem isFilter_closure (x : Int) (w : World) :
    Calls Tryz.prog 176 #[.int .i64 x] w fun e w' => e = .returned (.bool (outB 127 x)) ∧ w = w' := by
  by_cases hx : x < -127
  · have H : outB 127 x = true := by simp [outB, hx]
    have H' := Aside0.mk H
    clear H
    have hd : decide (x < -127) = true := by simpa using hx
    go_enter Tryz.func176, Tryz.ntmps176
    go_wp2
    go_ret
    exact ⟨by rw [H'.out]; rfl, rfl⟩
  · have H : outB 127 x = decide (127 < x) := by simp [outB, hx]
    have H' := Aside0.mk H
    clear H
    have hd : decide (x < -127) = false := by simpa using hx
    go_enter Tryz.func176, Tryz.ntmps176
    go_wp2
    go_ret
    exact ⟨by rw [H'.out]; rfl, rfl⟩
def idxOf (p : Int → Bool) : List Int → Int → Int
  | [], _ => -1
  | x :: l, i => if p x then i else idxOf p l (i + 1)
theorem idxOf_any (p : Int → Bool) : ∀ (l : List Int) (i : Int), 0 ≤ i → decide (0 ≤ idxOf p l i) = l.any p
  | [], i, _ => by simp [idxOf]
  | x :: l, i, h => by
    unfold idxOf
    by_cases hx : p x = true
    · simp [hx, h]
    · simp only [hx, if_false, Bool.false_eq_true]
      rw [idxOf_any p l (i + 1) (by omega)]
      simp [hx]
theorem drop_head (l : List Int) (k : Nat) (h : k < l.length) : l.drop k = rd l k :: l.drop (k + 1) := by
  rw [List.drop_eq_getElem_cons h]
  congr 1
  simp [rd, List.getD, h]
theorem indexFunc_check (b : Nat) (m : Int) (A : Option Addr) (c : Nat) (l : List Int) (w : World) (hr : Kd.C (Kd.int .i64) w A l.length l) (hl : l.length ≤ 9223372036854775807) (h0 : 0 ≤ m) (h1 : m ≤ 4611686018427387904) (hc : w.cell? ⟨b, 0, none⟩ = some (.int .i64 m)) :
    Calls Tryz.prog 190 #[.slice A l.length c, (.func (.func 159) #[] #[.pointer (some ⟨b, 0, none⟩)])] w fun e w' => e = .returned (.int .i64 (idxOf (outB m) l 0)) ∧ w = w' := by
  have HR := Aside0.mk hr
  clear hr
  go_enter Tryz.func190, Tryz.ntmps190
  go_wp2
  go_loop [5, 8] (fun u i => ∃ k : Nat, k ≤ l.length ∧ i = .int .i64 k ∧ Aside0 (idxOf (outB m) l 0 = idxOf (outB m) (l.drop k) k)) (fun _ i => l.length - (intOf i).toNat)
  case atStart => exact ⟨0, Nat.zero_le _, rfl, ⟨by simp⟩⟩
  case round =>
    obtain ⟨k, hk, rfl, HE⟩ := hrel
    by_cases hlt : k < l.length
    · have q1 : (0 : Int) ≤ (k : Int) := by omega
      have q2 : (k : Int) < (l.length : Int) := by omega
      obtain ⟨ad, e, hx⟩ := Kd.at_int HR.out (k : Int) q1 q2
      cases e
      rw [Int.toNat_natCast] at hx
      cases hpv : (outB m) (rd l k) with
      | true =>
        have HF : Aside0 (idxOf (outB m) l 0 = k) := ⟨by rw [HE.out, drop_head l k hlt]; simp [idxOf, hpv]⟩
        have HP := Aside0.mk hpv
        clear hpv
        go_wp2_with (go_at_call 159; refine (check_closure b m _ _ h0 h1 hc).mono ?_; rintro e w' ⟨rfl, rfl⟩; rw [HP.out])
        go_ret
        exact ⟨by rw [HF.out]; rfl, rfl⟩
      | false =>
        have HF : Aside0 (idxOf (outB m) l 0 = idxOf (outB m) (l.drop (k + 1)) (k + 1)) := ⟨by rw [HE.out, drop_head l k hlt]; simp [idxOf, hpv]⟩
        have HP := Aside0.mk hpv
        clear hpv
        go_wp2_with (go_at_call 159; refine (check_closure b m _ _ h0 h1 hc).mono ?_; rintro e w' ⟨rfl, rfl⟩; rw [HP.out])
        go_round
        case rel => exact ⟨k + 1, by omega, by go_num, ⟨by rw [HF.out]; rfl⟩⟩
        case measure => simp [intOf]; omega
    · have HF : Aside0 (idxOf (outB m) l 0 = -1) := ⟨by rw [HE.out, List.drop_of_length_le (by omega)]; rfl⟩
      go_wp2
      go_ret
      exact ⟨by rw [HF.out]; rfl, rfl⟩
theorem containsFunc_check (b : Nat) (m : Int) (A : Option Addr) (c : Nat) (l : List Int) (w : World) (hr : Kd.C (Kd.int .i64) w A l.length l) (hl : l.length ≤ 9223372036854775807) (h0 : 0 ≤ m) (h1 : m ≤ 4611686018427387904) (hc : w.cell? ⟨b, 0, none⟩ = some (.int .i64 m)) :
    Calls Tryz.prog 158 #[.slice A l.length c, (.func (.func 159) #[] #[.pointer (some ⟨b, 0, none⟩)])] w fun e w' => e = .returned (.bool (l.any (outB m))) ∧ w = w' := by
  have HR := Aside0.mk hr
  clear hr
  have HF := Aside0.mk (idxOf_any (outB m) l 0 (Int.le_refl _))
  go_enter Tryz.func158, Tryz.ntmps158
  go_wp2_with (go_at_call 190; refine (indexFunc_check b m A c l _ HR.out hl h0 h1 hc).mono ?_; rintro e w' ⟨rfl, rfl⟩)
  go_ret
  exact ⟨by rw [← HF.out]; rfl, rfl⟩
theorem indexFunc_filter  (A : Option Addr) (c : Nat) (l : List Int) (w : World) (hr : Kd.C (Kd.int .i64) w A l.length l) (hl : l.length ≤ 9223372036854775807)  :
    Calls Tryz.prog 190 #[.slice A l.length c, (.func (.func 176) #[] #[])] w fun e w' => e = .returned (.int .i64 (idxOf (outB 127) l 0)) ∧ w = w' := by
  have HR := Aside0.mk hr
  clear hr
  go_enter Tryz.func190, Tryz.ntmps190
  go_wp2
  go_loop [5, 8] (fun u i => ∃ k : Nat, k ≤ l.length ∧ i = .int .i64 k ∧ Aside0 (idxOf (outB 127) l 0 = idxOf (outB 127) (l.drop k) k)) (fun _ i => l.length - (intOf i).toNat)
  case atStart => exact ⟨0, Nat.zero_le _, rfl, ⟨by simp⟩⟩
  case round =>
    obtain ⟨k, hk, rfl, HE⟩ := hrel
    by_cases hlt : k < l.length
    · have q1 : (0 : Int) ≤ (k : Int) := by omega
      have q2 : (k : Int) < (l.length : Int) := by omega
      obtain ⟨ad, e, hx⟩ := Kd.at_int HR.out (k : Int) q1 q2
      cases e
      rw [Int.toNat_natCast] at hx
      cases hpv : (outB 127) (rd l k) with
      | true =>
        have HF : Aside0 (idxOf (outB 127) l 0 = k) := ⟨by rw [HE.out, drop_head l k hlt]; simp [idxOf, hpv]⟩
        have HP := Aside0.mk hpv
        clear hpv
        go_wp2_with (go_at_call 176; refine (isFilter_closure _ _).mono ?_; rintro e w' ⟨rfl, rfl⟩; rw [HP.out])
        go_ret
        exact ⟨by rw [HF.out]; rfl, rfl⟩
      | false =>
        have HF : Aside0 (idxOf (outB 127) l 0 = idxOf (outB 127) (l.drop (k + 1)) (k + 1)) := ⟨by rw [HE.out, drop_head l k hlt]; simp [idxOf, hpv]⟩
        have HP := Aside0.mk hpv
        clear hpv
        go_wp2_with (go_at_call 176; refine (isFilter_closure _ _).mono ?_; rintro e w' ⟨rfl, rfl⟩; rw [HP.out])
        go_round
        case rel => exact ⟨k + 1, by omega, by go_num, ⟨by rw [HF.out]; rfl⟩⟩
        case measure => simp [intOf]; omega
    · have HF : Aside0 (idxOf (outB 127) l 0 = -1) := ⟨by rw [HE.out, List.drop_of_length_le (by omega)]; rfl⟩
      go_wp2
      go_ret
      exact ⟨by rw [HF.out]; rfl, rfl⟩
theorem containsFunc_filter  (A : Option Addr) (c : Nat) (l : List Int) (w : World) (hr : Kd.C (Kd.int .i64) w A l.length l) (hl : l.length ≤ 9223372036854775807)  :
    Calls Tryz.prog 158 #[.slice A l.length c, (.func (.func 176) #[] #[])] w fun e w' => e = .returned (.bool (l.any (outB 127))) ∧ w = w' := by
  have HR := Aside0.mk hr
  clear hr
  have HF := Aside0.mk (idxOf_any (outB 127) l 0 (Int.le_refl _))
  go_enter Tryz.func158, Tryz.ntmps158
  go_wp2_with (go_at_call 190; refine (indexFunc_filter A c l _ HR.out hl).mono ?_; rintro e w' ⟨rfl, rfl⟩)
  go_ret
  exact ⟨by rw [← HF.out]; rfl, rfl⟩
end Go.Proofs.YtjcijaojcgampaaGreatDoor.P.Lin
