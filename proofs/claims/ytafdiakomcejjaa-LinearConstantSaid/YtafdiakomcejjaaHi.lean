/- Contract of linear.normalized. -/
import Derived.Test.YtafdiakomcejjaaHh
namespace Go.Proofs.Ytafdiakomcejjaa.P
open Go.RowKit Go.Shelf Go.Proofs.YtafdiakomcejjaaW.PrintWords Go.Proofs.YtafdiakomcejjaaW.PrintLast Go.Proofs.YtafdiakomcejjaaW.PrintMore
set_option linter.unusedVariables false
set_option linter.unusedSimpArgs false

def shfrom (s : Int) : Nat → Nat → Nat
  | 0, h => h
  | f + 1, h => if s / 2 ^ h < 1073741824 then h else shfrom s f (h + 1)
/-- By how many bits the sums are made smaller. -/
def shf (s : Int) : Nat := shfrom s 64 0
/-- The sums of products at the distances 0 to order. -/
def autos (x : List Int) (order : Nat) : List Int := (List.range (order + 1)).map fun j => wsum (prods x j)
def normd (x : List Int) (order : Nat) : List Int := (autos x order).map fun s => s / 2 ^ shf (rd (autos x order) 0)
theorem autos_take (x : List Int) (o k : Nat) (h : k < o + 1) : (autos x o).take (k + 1) = (autos x o).take k ++ [wsum (prods x k)] := by
  rw [List.take_add_one]
  simp [autos, h]
theorem autos_length (x : List Int) (o : Nat) : (autos x o).length = o + 1 := by simp [autos]

theorem sum_bound (B : Int) (hB : 0 ≤ B) : ∀ (l : List Int), (∀ x ∈ l, -B ≤ x ∧ x ≤ B) → -(B * l.length) ≤ l.sum ∧ l.sum ≤ B * l.length
  | [], _ => by simp
  | x :: l, h => by
    have h1 := h x (by simp)
    have h2 := sum_bound B hB l (fun y hy => h y (List.mem_cons_of_mem _ hy))
    have e : B * ((x :: l).length : Int) = B * (l.length : Int) + B := by
      rw [List.length_cons]
      push_cast
      rw [Int.mul_add]
      omega
    rw [List.sum_cons]
    omega
theorem sum_nonneg : ∀ (l : List Int), (∀ x ∈ l, 0 ≤ x) → 0 ≤ l.sum
  | [], _ => by simp
  | x :: l, h => by
    have h1 := h x (by simp)
    have h2 := sum_nonneg l (fun y hy => h y (List.mem_cons_of_mem _ hy))
    rw [List.sum_cons]
    omega
theorem mul_bound {a b A B : Int} (ha : -A ≤ a ∧ a ≤ A) (hb : -B ≤ b ∧ b ≤ B) : -(A * B) ≤ a * b ∧ a * b ≤ A * B := by
  have hA : 0 ≤ A := by omega
  have hB : 0 ≤ B := by omega
  have h0 := Int.mul_le_mul_of_nonneg_left hb.2 hA
  have h1 := Int.mul_le_mul_of_nonneg_left (show -b ≤ B by omega) hA
  rw [Int.mul_neg] at h1
  constructor
  · rcases Int.le_total 0 b with q | q
    · have := Int.mul_le_mul_of_nonneg_right ha.1 q
      rw [Int.neg_mul] at this
      omega
    · have := Int.mul_le_mul_of_nonpos_right ha.2 q
      omega
  · rcases Int.le_total 0 b with q | q
    · have := Int.mul_le_mul_of_nonneg_right ha.2 q
      omega
    · have := Int.mul_le_mul_of_nonpos_right ha.1 q
      rw [Int.neg_mul] at this
      omega
theorem prods_bound {x : List Int} (hw : within 2097152 x) (far : Nat) : ∀ y ∈ prods x far, -4398046511104 ≤ y ∧ y ≤ 4398046511104 := by
  intro y hy
  obtain ⟨j, _, rfl⟩ := List.mem_map.1 hy
  have := mul_bound (within_rd hw (by omega) ((far + j : Nat) : Int)) (within_rd hw (by omega) (j : Int))
  omega
theorem wsum_prods {x : List Int} (hw : within 2097152 x) (hl : x.length ≤ 9000) (far : Nat) : wsum (prods x far) = (prods x far).sum ∧ -39582418599936000 ≤ wsum (prods x far) ∧ wsum (prods x far) ≤ 39582418599936000 := by
  have h := sum_bound 4398046511104 (by omega) (prods x far) (prods_bound hw far)
  have hl' := prods_length x far
  have e : wsum (prods x far) = (prods x far).sum := wrap64_id (by omega) (by omega)
  exact ⟨e, by omega, by omega⟩
theorem prods_zero_nonneg {x : List Int} (hw : within 2097152 x) (hl : x.length ≤ 9000) : 0 ≤ wsum (prods x 0) := by
  rw [(wsum_prods hw hl 0).1]
  refine sum_nonneg _ (fun y hy => ?_)
  obtain ⟨j, _, rfl⟩ := List.mem_map.1 hy
  rw [Nat.zero_add]
  rcases Int.le_total 0 (rd x (j : Int)) with q | q
  · exact Int.mul_nonneg q q
  · exact Int.mul_nonneg_of_nonpos_of_nonpos q q
theorem shfrom_step (s : Int) (f h : Nat) (hh : 1073741824 ≤ s / 2 ^ h) : shfrom s (f + 1) h = shfrom s f (h + 1) := by
  rw [shfrom, if_neg (by omega)]
theorem shfrom_stop (s : Int) (f h : Nat) (hh : s / 2 ^ h < 1073741824) : shfrom s (f + 1) h = h := by
  rw [shfrom, if_pos hh]
theorem div_pow_le (s : Int) (h : Nat) (h0 : 0 ≤ s) (h1 : s ≤ 39582418599936000) (hh : 1073741824 ≤ s / 2 ^ h) : h ≤ 26 := by
  rcases Nat.lt_or_ge h 27 with q | q
  · omega
  · exfalso
    have hp : (2 : Int) ^ 27 ≤ 2 ^ h := by
      have := Nat.pow_le_pow_right (show 0 < 2 by omega) q
      exact_mod_cast this
    have : s / 2 ^ h ≤ s / 2 ^ 27 := by
      have hpos : (0 : Int) < 2 ^ h := by have : (0 : Int) < 2 ^ 27 := by decide
                                          omega
      rw [Int.le_ediv_iff_mul_le (by decide)]
      have e1 := Int.ediv_mul_le s (show (2 : Int) ^ h ≠ 0 by omega)
      have e2 : 0 ≤ s / 2 ^ h := Int.ediv_nonneg h0 (by omega)
      have e3 := Int.mul_le_mul_of_nonneg_left hp e2
      omega
    have : s / 2 ^ 27 ≤ 39582418599936000 / 2 ^ 27 := Int.ediv_le_ediv (by decide) h1
    have : (39582418599936000 : Int) / 2 ^ 27 = 294912000 := by decide
    omega

/-- The first n elements are new. -/
def updTo (f : Int → Int) (l : List Int) (n : Nat) : List Int := (l.take n).map f ++ l.drop n
theorem updTo_length (f : Int → Int) (l : List Int) (n : Nat) : (updTo f l n).length = l.length := by simp [updTo]; omega
theorem updTo_rd (f : Int → Int) (l : List Int) (n : Nat) (h : n < l.length) : rd (updTo f l n) (n : Int) = rd l (n : Int) := by
  unfold updTo
  rw [drop_head l n h]
  simp [rd, List.getD_eq_getElem?_getD, List.getElem?_append_right, Nat.min_eq_left (Nat.le_of_lt h), h]
theorem updTo_set (f : Int → Int) (l : List Int) (n : Nat) (h : n < l.length) : (updTo f l n).set n (f (rd l (n : Int))) = updTo f l (n + 1) := by
  have h1 := drop_head l n h
  have h2 : l.take (n + 1) = l.take n ++ [rd l (n : Int)] := by
    rw [List.take_add_one, List.getElem?_eq_getElem h]
    simp [rd, List.getD_eq_getElem?_getD, h]
  unfold updTo
  rw [h1, h2, List.set_append]
  simp [Nat.min_eq_left (Nat.le_of_lt h)]

theorem products_any (A : Option Addr) (n c : Nat) (far : Int) (w : World) :
    Calls Try.prog 46 #[.slice A n c, .int .i64 far] w fun e w' => e = .returned (.func (.func 52) #[] #[.pointer (some ⟨w.heap.size + 1, 0, none⟩), .pointer (some ⟨w.heap.size, 0, none⟩)]) ∧ w' = (w.alloc (.cells #[.slice A n c] 22)).alloc (.cells #[.int .i64 far] 3) := by
  go_enter Try.func46, Try.ntmps46
  go_wp2
  go_ret
  exact ⟨rfl, rfl⟩

set_option maxHeartbeats 1000000 in
set_option maxRecDepth 100000 in
theorem normalized_any (A : Option Addr) (c : Nat) (x : List Int) (o : Nat) (w : World) (hC : Kd.C (Kd.int .i64) w A x.length x) (hw : within 2097152 x) (hl : x.length ≤ 9000) (ho : o ≤ 12) :
    Calls Try.prog 30 #[.slice A x.length c, .int .i64 o] w fun e w' => ∃ v : Value, e = .returned v ∧ Kd.R (Kd.int .i64) 3 w' w.heap.size (fun _ => True) v (normd x o) ∧ Below w.heap.size w w' := by
  have HC := Aside0.mk hC
  have HW := Aside0.mk hw
  clear hC hw
  go_enter Try.func30, Try.ntmps30
  go_wp2
  go_step3
  go_wp2
  go_loopw [5, 11] (fun v u wr => ∃ k : Nat, k ≤ o + 1 ∧ u = .int .i64 k ∧ Aside0 (Kd.R (Kd.int .i64) 3 wr w.heap.size (fun _ => True) v ((autos x o).take k)) ∧ Aside0 (Below w.heap.size w wr)) (fun _ u _ => o + 1 - (intOf u).toNat)
  case atStart => exact ⟨0, Nat.zero_le _, rfl, ⟨by simpa using Kd.R_nil _ _ _ _ _⟩, ⟨Below.refl _ _⟩⟩
  case round =>
    obtain ⟨k, hk, rfl, HO, HB⟩ := hrel
    obtain ⟨Av, cv, hv, hcv, hCv⟩ := Kd.R_reads HO.out
    rw [List.length_take, autos_length, Nat.min_eq_left hk] at hv hcv hCv
    by_cases hlt : k < o + 1
    · cases hv
      have HT := Aside0.mk (autos_take x o k hlt)
      have HLk := Aside0.mk (show ((autos x o).take k).length = k by rw [List.length_take, autos_length]; omega)
      have hsz := HB.out.size
      clear hCv
      go_wp2_with (first
        | (go_at_call 46; refine (products_any A x.length c _ _).mono ?_; rintro e w1 ⟨rfl, rfl⟩)
        | (go_at_call 45; refine (total_any _ _ k A c x _ (by simp) (by simp) (Kd.C_alloc (Kd.C_alloc (Kd.C_below HC.out HB.out) _) _) HW.out hl (by omega)).mono ?_; rintro e w2 ⟨rfl, hb2⟩; have HB2 := Aside0.mk (HB.out.trans ((((Below.refl wr.heap.size wr).alloc (Nat.le_refl _) _).alloc (by simp) _).trans (hb2.mono (by simp; omega)) |>.mono hsz)); have HO2 := Aside0.mk (Kd.R_below (Kd.R_alloc (Kd.R_alloc HO.out _) _) hb2); clear hb2)
        | (at_builtin; refine Kd.R_append (Kd.int .i64) (w0 := w) w.heap.size rfl (.tmp 14) (.tmp 19) 22 3 (.int .i64 0) 8 rfl Try.underlying22 hinfo3 rfl (by decide) (by omega) _ ((autos x o).take k) (wsum (prods x k)) [.int .i64 (wsum (prods x k))] (fun _ => True) (fun _ => False) rfl rfl rfl (fun _ hk => hk.elim) (fun _ _ => trivial) HO2.out HB2.out HB2.out.size (by rw [HLk.out]; omega) ?_; intro v3 w3 ho hb hg hat; rw [← HT.out] at ho; have HO3 := Aside0.mk ho; have HB3 := Aside0.mk hb; clear ho hb hg hat))
      go_roundw
      case rel => exact ⟨k + 1, by omega, by go_num, HO3, HB3⟩
      case measure => simp [intOf]; omega
    · obtain rfl : k = o + 1 := by omega
      rw [List.take_of_length_le (by rw [autos_length]; exact Nat.le_refl _)] at HO
      cases hv
      clear hCv
      go_wp2
      go_step3
      go_wp2
      obtain ⟨g, cap, e, hbg, hgl, cells, hcells⟩ := Kd.R_form HO.out (by rw [autos_length]; omega)
      rw [autos_length] at e
      cases e
      have hc0 := Kd.R_cell (W := wr) (0 : Int) (by rw [autos_length]; exact HO.out) 0 (by omega) (by rw [autos_length]; omega)
      obtain ⟨s, hs⟩ : ∃ s, s = rd (autos x o) 0 := ⟨_, rfl⟩
      have hs0 : s = wsum (prods x 0) := by rw [hs]; simp [autos, rd, List.getD_eq_getElem?_getD]
      have hcs : wr.cell? ⟨g, 0, none⟩ = some (.int .i64 s) := by rw [hs]; exact hc0.1
      have b0 : 0 ≤ s := by rw [hs0]; exact prods_zero_nonneg HW.out hl
      have b1 : s ≤ 39582418599936000 := by rw [hs0]; exact (wsum_prods HW.out hl 0).2.2
      have HS := Aside0.mk hs
      clear hs hs0 hc0 hcells
      go_loop [7] (fun u => ∃ h : Nat, u = .int .i64 h ∧ h ≤ 27 ∧ Aside0 (shf s = shfrom s (64 - h) h)) (fun u => 64 - (intOf u).toNat)
      case atStart => exact ⟨0, rfl, by omega, ⟨rfl⟩⟩
      case round =>
        obtain ⟨h, rfl, hh, HE⟩ := hrel
        by_cases hq : s / 2 ^ h < 1073741824
        · have HSH : Aside0 (shf s = h) := ⟨by rw [HE.out, show 64 - h = (63 - h) + 1 by omega, shfrom_stop _ _ _ hq]⟩
          go_wp2
          go_loopw [8, 32] (fun _ u wr => ∃ k : Nat, u = .int .i64 k ∧ k ≤ o + 1 ∧ Aside0 (Kd.R (Kd.int .i64) 3 wr w.heap.size (fun _ => True) (.slice (some ⟨g, 0, none⟩) (o + 1) cv) (updTo (fun s => s / 2 ^ h) (autos x o) k)) ∧ Aside0 (Below w.heap.size w wr)) (fun _ u _ => o + 1 - (intOf u).toNat)
          case atStart => exact ⟨0, rfl, by omega, by simpa [updTo] using HO, HB⟩
          case round =>
            obtain ⟨k, rfl, hk, HOk, HBk⟩ := hrel
            have hul := updTo_length (fun s => s / 2 ^ h) (autos x o) k
            rw [autos_length] at hul
            by_cases hlt : k < o + 1
            · have hc1 := Kd.R_cell (W := wr) (0 : Int) (by rw [hul]; exact HOk.out) (k : Int) (by omega) (by omega)
              rw [Int.toNat_natCast] at hc1
              have HST := Aside0.mk (updTo_set (fun s => s / 2 ^ h) (autos x o) k (by rw [autos_length]; omega))
              have hrd := updTo_rd (fun s => s / 2 ^ h) (autos x o) k (by rw [autos_length]; omega)
              obtain ⟨y, hy⟩ : ∃ y, y = rd (autos x o) (k : Int) := ⟨_, rfl⟩
              have hck : wr.cell? ⟨g, k, none⟩ = some (.int .i64 y) := by rw [hc1.1, hy, ← hrd]; rfl
              have hfk := hc1.2
              rw [← hy] at HST
              have HL := Aside0.mk hul
              have i1 : (0 : Int) ≤ (k : Int) := by omega
              have i2 : (k : Int) < (o : Int) + 1 := by omega
              clear hc1 hrd hy hul
              go_wp2
              go_roundw
              case rel =>
                have hput := Kd.R_put (W := wr) (by rw [HL.out]; exact HOk.out) (k : Int) (y / 2 ^ h)
                rw [Int.toNat_natCast, HST.out, HL.out] at hput
                exact ⟨k + 1, by go_num, by omega, ⟨hput.1⟩, ⟨HBk.out.setCell hbg _⟩⟩
              case measure => simp [intOf]; omega
            · obtain rfl : k = o + 1 := by omega
              have HF : Aside0 (updTo (fun s => s / 2 ^ h) (autos x o) (o + 1) = normd x o) := ⟨by
                unfold updTo normd
                rw [List.take_of_length_le (by rw [autos_length]; exact Nat.le_refl _), List.drop_of_length_le (by rw [autos_length]; exact Nat.le_refl _), List.append_nil, ← HS.out, HSH.out]⟩
              clear hul
              go_wp2
              try rw [Exit.noGoto_ret]
              go_ret
              exact ⟨_, rfl, by rw [← HF.out]; exact HOk.out, HBk.out⟩
        · have hn := div_pow_le s h b0 b1 (by omega)
          have HE2 : Aside0 (shf s = shfrom s (64 - (h + 1)) (h + 1)) := ⟨by rw [HE.out, show 64 - h = (64 - (h + 1)) + 1 by omega, shfrom_step _ _ _ (by omega)]⟩
          go_wp2
          go_round
          case rel => exact ⟨h + 1, by go_num, by omega, HE2⟩
          case measure => simp [intOf]; omega
end Go.Proofs.Ytafdiakomcejjaa.P
