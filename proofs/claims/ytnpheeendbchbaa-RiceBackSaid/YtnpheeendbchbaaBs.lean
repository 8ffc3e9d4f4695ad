/- The reference's writer: what is in memory; Number, unary, put. The reference's writer: Number, unary, Put, Signed, Unary, Append, Len, Bytes. The reference's writer: Align, Gamma. Calls as the law hands them: few, write, told. The argument of calls, opened: what the claim says of it is what the walk needs. The contract of flipped. -/
import Derived.Test.YtnpheeendbchbaaBn
import Derived.Test.YtnpheeendbchbaaBi
import Derived.Test.YtnpheeendbchbaaBj
import Derived.WalkKit
import Derived.ProofKit
import Derived.OpenShut
import Derived.ShutString
import Derived.ChangeOld
import Derived.SizedLaws
import Derived.Deep.Slices
import Derived.Deep.Fields
import Derived.Test.YtnpheeendbchbaaWSized
section
namespace Go.Proofs.Ytnpheeendbchbaa.P
open Go.RowKit Go.Shelf Go.Proofs.Ytnpheeendbchbaa.Bits Go.Proofs.YtnpheeendbchbaaW.PrintWords Go.Proofs.YtnpheeendbchbaaW.PrintLast Go.Proofs.YtnpheeendbchbaaW.PrintMore
set_option linter.unusedVariables false
set_option linter.unusedSimpArgs false
attribute [local go_sem ↓] Go.wp_at_zero Go.wp_at_succ

/-- A writer of the reference at block p has the bits L, in blocks of S. -/
structure RWr (w : World) (S : Nat → Prop) (p : Nat) (L : List Int) : Prop where
  blk : ∃ v, w.heap[p]? = some (.cells #[v] 51 (0, 0)) ∧ RB S w v L
  bits : is01 L
  typed : ∀ k, S k → ∃ cells, w.heap[k]? = some (.cells cells 5 (0, 0))
def RWrTo (w : World) (S : Nat → Prop) (p : Nat) (L : List Int) (w' : World) : Prop := ∃ S', RWr w' S' p L ∧ (∀ k, S' k → S k ∨ w.heap.size ≤ k) ∧ Fr (fun k => k = p ∨ S k) w w'
theorem RWr.lt {w : World} {S : Nat → Prop} {p : Nat} {L : List Int} (h : RWr w S p L) (k : Nat) (hk : S k) : k < w.heap.size := by
  obtain ⟨cells, hc⟩ := h.typed k hk
  exact lt_of_block hc
theorem RWr.p_lt {w : World} {S : Nat → Prop} {p : Nat} {L : List Int} (h : RWr w S p L) : p < w.heap.size := by
  obtain ⟨v, hb, _⟩ := h.blk
  exact lt_of_block hb
theorem RWr.fr {w w' : World} {S T : Nat → Prop} {p : Nat} {L : List Int} (h : RWr w S p L) (hf : Fr T w w') (hp : ¬ T p) (hS : ∀ k, S k → ¬ T k) : RWr w' S p L := by
  obtain ⟨v, hb, hr⟩ := h.blk
  exact ⟨⟨v, blk_fr hb hf hp, R_fr hr hf (fun k hk _ => hS k hk)⟩, h.bits, fun k hk => by
    obtain ⟨cells, hc⟩ := h.typed k hk
    exact ⟨cells, blk_fr hc hf (hS k hk)⟩⟩
theorem RWr.below {w w' : World} {S : Nat → Prop} {p : Nat} {L : List Int} (h : RWr w S p L) (hb : Below w.heap.size w w') : RWr w' S p L := h.fr (Fr.below hb (fun _ => False)) (fun h => h) (fun _ _ h => h)
theorem RWr.wrTo {w w' : World} {S : Nat → Prop} {p : Nat} {L : List Int} (h : RWr w S p L) (hb : Below w.heap.size w w') : RWrTo w S p L w' := ⟨S, h.below hb, fun _ hk => .inl hk, Fr.below hb _⟩
theorem RWrTo.glue {w W1 W2 : World} {S S1 : Nat → Prop} {p : Nat} {L2 : List Int} (hs1 : ∀ k, S1 k → S k ∨ w.heap.size ≤ k) (f1 : Fr (fun k => k = p ∨ S k) w W1) (h2 : RWrTo W1 S1 p L2 W2) : RWrTo w S p L2 W2 := by
  obtain ⟨S2, k2, hs2, f2⟩ := h2
  refine ⟨S2, k2, fun i hi => ?_, f1.next f2 (fun i hi hT => ?_)⟩
  · rcases hs2 i hi with q | q
    · exact hs1 i q
    · exact .inr (Nat.le_trans f1.size q)
  · rcases hT with q | q
    · exact .inl q
    · rcases hs1 i q with q | q
      · exact .inr q
      · omega
/-- A row that came of another by append lies in the writer now. -/
theorem RWr.stored {w w1 : World} {S : Nat → Prop} {p n c : Nat} {A : Option Addr} {L L1 : List Int} {row : Option Nat} (h : RWr w S p L) (h01 : is01 L1) (hR : RB (fun k => S k ∨ w.heap.size ≤ k) w1 (.slice A n c) L1) (hg : w.grownBy w1 row) (hr : ∀ k, row = some k → S k) : RWrTo w S p L1 (w1.setCell ⟨p, 0, none⟩ (.slice A n c)) := by
  obtain ⟨v, hb, hrr⟩ := h.blk
  have hp1 : w1.heap[p]? = some (.cells #[v] 51 (0, 0)) := by
    refine blk_grown hb hg (fun e => ?_)
    obtain ⟨cells, hc⟩ := h.typed p (hr p e.symm)
    exact blk_ne hb hc (by decide) rfl
  have hR2 := Kd.R_bound (Kd.R_set (j := 0) (u := .slice A n c) hR hp1 (by simp [Kd.int, Kd.scalar]))
  refine ⟨fun k => (S k ∨ w.heap.size ≤ k) ∧ ∃ cells, (w1.setCell ⟨p, 0, none⟩ (.slice A n c)).heap[k]? = some (.cells cells 5 (0, 0)), ⟨⟨.slice A n c, one_setCell hp1, ?_⟩, h01, fun k hk => hk.2⟩, fun k hk => hk.1, ?_⟩
  · refine Kd.R_mono hR2 (fun k hk => ⟨hk.1, ?_⟩)
    obtain ⟨q, hq, cells, hc⟩ := hk.2.2.2
    obtain rfl : q = 5 := by simpa [Kd.int, Kd.scalar] using hq
    exact ⟨cells, hc⟩
  · exact ((Fr.refl _ _).grown hg (fun k _ e => .inr (hr k e))).setCell (p := ⟨p, 0, none⟩) (fun _ => .inl rfl) _

set_option maxHeartbeats 1000000 in
set_option maxRecDepth 100000 in
theorem RefPut_any (S : Nat → Prop) (p : Nat) (L M : List Int) (A : Option Addr) (m c : Nat) (w : World) (hW : RWr w S p L) (hC : Kd.C (Kd.int .u8) w A m M) (hM : is01 M) (hL : L.length ≤ 1048576) (hm : m ≤ 1000000000) :
    Calls Try.prog 68 #[.pointer (some ⟨p, 0, none⟩), .slice A m c] w fun e w' => e = .returned (.int .i64 (putE L M)) ∧ RWrTo w S p (putL L M) w' := by
  obtain ⟨v, hblk, hR⟩ := hW.blk
  obtain ⟨Av, cv, ev⟩ := Kd.R_slice hR
  subst ev
  have hml := C_len8 hC
  have c0 := cell_of_one hblk
  have fz := free_of_one hblk
  have HW := Aside0.mk hW
  have HR := Aside0.mk hR
  have HC := Aside0.mk hC
  have HM := Aside0.mk hM
  have HK := Aside0.mk hblk
  clear hW hR hC hM hblk
  by_cases ho : 1048576 < L.length + m
  · have HE : Aside0 (putE L M = 2) := ⟨by unfold putE; rw [if_pos (by omega)]⟩
    have HL : Aside0 (putL L M = L) := ⟨by unfold putL; rw [if_pos (by omega)]⟩
    have q1 : decide ((1048576 : Int) < (L.length : Int) + (m : Int)) = true := by simp; omega
    clear hml
    go_enter Try.func68, Try.ntmps68
    go_wp2_with fail
    go_ret
    rw [HE.out, HL.out]
    exact ⟨rfl, HW.out.wrTo (Below.refl _ _)⟩
  · have HE : Aside0 (putE L M = 0) := ⟨by unfold putE; rw [if_neg (by omega)]⟩
    have HL : Aside0 (putL L M = L ++ M) := ⟨by unfold putL; rw [if_neg (by omega)]⟩
    have q1 : decide ((1048576 : Int) < (L.length : Int) + (m : Int)) = false := by simp; omega
    clear hml
    go_enter Try.func68, Try.ntmps68
    go_wp2_with (at_builtin; refine Kd.R_append_row (Value.int .u8) (0 : Int) (w0 := w) 0 rfl (.tmp 18) (.tmp 19) 27 5 (.int .u8 0) 1 rfl Try.underlying27 binfo rfl (by decide) (.slice Av L.length cv) L M _ _ _ (fun k => S k ∨ w.heap.size ≤ k) rfl rfl (fun k hk => .inr hk) (Kd.R_mono HR.out (fun _ hk => .inl hk)) HC.out (Below.refl _ _) (Nat.zero_le _) (by omega) ?_; intro v1 w1 ho hb1 hg hat; obtain ⟨A1, k1, ev1⟩ := Kd.R_slice ho; subst ev1; have hbk := blk_grown HK.out hg (Kd.R_ne HR.out HK.out (by decide)); have d0 := cell_of_one hbk; have df := free_of_one hbk; have HO1 := Aside0.mk ho; have HG1 := Aside0.mk hg; clear ho hg hbk hat hb1)
    go_ret
    rw [HE.out, HL.out]
    refine ⟨rfl, ?_⟩
    have := HW.out.stored (is01_append HW.out.bits HM.out) HO1.out HG1.out (fun k hk => HR.out.1 k hk)
    simpa using this
end Go.Proofs.Ytnpheeendbchbaa.P
end
section
namespace Go.Proofs.Ytnpheeendbchbaa.P
open Go.RowKit Go.Shelf Go.Proofs.Ytnpheeendbchbaa.Bits Go.Proofs.YtnpheeendbchbaaW.PrintWords Go.Proofs.YtnpheeendbchbaaW.PrintLast Go.Proofs.YtnpheeendbchbaaW.PrintMore
set_option linter.unusedVariables false
set_option linter.unusedSimpArgs false
attribute [local go_sem ↓] Go.wp_at_zero Go.wp_at_succ

theorem numb_fill (v : Int) (n : Nat) : fillB (fun i => v / 2 ^ (n - 1 - i) % 2) n n = numb v n := by rw [fillB_all]; rfl
set_option maxHeartbeats 1000000 in
set_option maxRecDepth 100000 in
theorem Number_any (v : Int) (n : Nat) (w : World) (hv : 0 ≤ v) (hv' : v ≤ 9223372036854775807) (hn : n ≤ 60) :
    Calls Try.prog 95 #[.int .i64 v, .int .i64 n] w fun e w' => ∃ g S', e = .returned (.slice (some ⟨g, 0, none⟩) n n) ∧ RB S' w' (.slice (some ⟨g, 0, none⟩) n n) (numb v n) ∧ (∀ k, S' k → w.heap.size ≤ k) ∧ Below w.heap.size w w' := by
  have hmk := print_make_of (P := Try.prog) 27 5 (.int .u8 0) 1 Try.underlying27 binfo rfl (by decide) n (by omega)
  go_enter Try.func95, Try.ntmps95
  go_wp2_with fail
  clear hmk
  obtain ⟨g, hg⟩ : ∃ g, g = w.heap.size := ⟨_, rfl⟩
  have HR0 := Aside0.mk (made8 w n (by omega))
  rw [← hg] at HR0 ⊢
  have HG := Aside0.mk hg
  have HB0 := Aside0.mk (below_alloc (Below.refl w.heap.size w) (.cells (madeCells #[.int .u8 0] n) 5))
  clear hg
  go_loopw [10] (fun i wr => ∃ k : Nat, i = .int .i64 (k : Int) ∧ k ≤ n ∧ Aside0 (RB (fun k => k = g) wr (.slice (some ⟨g, 0, none⟩) n n) (fillB (fun i => v / 2 ^ (n - 1 - i) % 2) n k)) ∧ Aside0 (Below w.heap.size w wr)) (fun i _ => n - (intOf i).toNat)
  case atStart => exact ⟨0, rfl, Nat.zero_le _, ⟨by rw [fillB_zero]; exact HR0.out⟩, HB0⟩
  case round =>
    obtain ⟨k, rfl, hk, HR, HB⟩ := hrel
    by_cases hlt : k < n
    · have hcell := Kd.R_celln 0 HR.out (k : Int) (by omega) (by omega)
      rw [Int.toNat_natCast] at hcell
      obtain ⟨hc1, hc2⟩ := hcell
      have HP := Aside0.mk (fillB_set (fun i => v / 2 ^ (n - 1 - i) % 2) n k hlt)
      have hd : 0 ≤ v / 2 ^ (n - 1 - k) ∧ v / 2 ^ (n - 1 - k) ≤ v := ⟨Int.ediv_nonneg hv (Int.le_of_lt (Int.pow_pos (by omega))), Int.ediv_le_self _ hv⟩
      have ha := and1_i64 (v / 2 ^ (n - 1 - k)) (by omega)
      have i3 : (0 : Int) ≤ (k : Int) := by omega
      have i4 : (k : Int) < (n : Int) := by omega
      have i5 : (0 : Int) ≤ (n : Int) - 1 - k := by omega
      have hb2 : 0 ≤ v / 2 ^ (n - 1 - k) % 2 ∧ v / 2 ^ (n - 1 - k) % 2 < 2 := by omega
      clear hd
      go_wp2_with fail
      go_roundw
      case rel =>
        have hr := Kd.R_putn HR.out (k : Int) (v / 2 ^ (n - 1 - k) % 2)
        rw [Int.toNat_natCast, HP.out] at hr
        refine ⟨k + 1, by go_num, by omega, ⟨?_⟩, ⟨HB.out.setCell (p := ⟨g, k, none⟩) (by have := HG.out; show w.heap.size ≤ g; omega) _⟩⟩
        have e : v / 2 ^ (n - 1 - k) % 2 % 256 = v / 2 ^ (n - 1 - k) % 2 := by omega
        first | exact hr | (rw [e]; exact hr)
      case measure => simp [intOf]; omega
    · obtain rfl : k = n := by omega
      go_wp2_with fail
      go_ret
      refine ⟨g, _, rfl, by have := HR.out; rw [numb_fill] at this; exact this, fun j hj => ?_, HB.out⟩
      have := HG.out
      omega

set_option maxHeartbeats 1000000 in
set_option maxRecDepth 100000 in
theorem RPut_any (S : Nat → Prop) (p : Nat) (L : List Int) (v n : Int) (w : World) (hW : RWr w S p L) (hL : L.length ≤ 1048576) :
    Calls Try.prog 75 #[.pointer (some ⟨p, 0, none⟩), .int .i64 v, .int .i64 n] w fun e w' => e = .returned (.int .i64 (wPut L v n).1) ∧ RWrTo w S p (wPut L v n).2 w' := by
  have HW := Aside0.mk hW
  clear hW
  have no : n < 0 ∨ 32 < n ∨ v < 0 ∨ 2 ^ n.toNat ≤ v → Aside0 (wPut L v n = (1, L)) := fun h => ⟨by unfold wPut; rw [if_pos h]⟩
  by_cases h1 : n < 0
  · have HN := no (.inl h1)
    have d1 : decide (n < 0) = true := by simpa using h1
    clear no
    go_enter Try.func75, Try.ntmps75
    go_wp2_with fail
    go_ret
    rw [HN.out]
    exact ⟨rfl, HW.out.wrTo (Below.refl _ _)⟩
  by_cases h2 : 32 < n
  · have HN := no (.inr (.inl h2))
    have d1 : decide (n < 0) = false := by simpa using h1
    have d2 : decide (32 < n) = true := by simpa using h2
    clear no
    go_enter Try.func75, Try.ntmps75
    go_wp2_with fail
    go_ret
    rw [HN.out]
    exact ⟨rfl, HW.out.wrTo (Below.refl _ _)⟩
  by_cases h3 : v < 0
  · have HN := no (.inr (.inr (.inl h3)))
    have d1 : decide (n < 0) = false := by simpa using h1
    have d2 : decide (32 < n) = false := by simpa using h2
    have d3 : decide (v < 0) = true := by simpa using h3
    clear no
    go_enter Try.func75, Try.ntmps75
    go_wp2_with fail
    go_ret
    rw [HN.out]
    exact ⟨rfl, HW.out.wrTo (Below.refl _ _)⟩
  obtain ⟨m, rfl⟩ : ∃ m : Nat, n = m := ⟨n.toNat, by omega⟩
  have d1 : decide ((m : Int) < 0) = false := by simp
  have d2 : decide (32 < (m : Int)) = false := by simpa using h2
  have d3 : decide (v < 0) = false := by simp; omega
  have hp2 := pow_le32 (m := m) (by omega)
  have hm : m ≤ 32 := by omega
  clear h1 h2
  have hs := shl1 m hm
  by_cases h4 : 2 ^ m ≤ v
  · have HN := no (.inr (.inr (.inr (by simpa using h4))))
    have d4 : decide (2 ^ m ≤ v) = true := by simpa using h4
    have d4' : decide (wrap64 (2 ^ min m 64) ≤ v) = true := by rw [hs]; simpa using h4
    clear no hs
    go_enter Try.func75, Try.ntmps75
    go_wp2_with fail
    go_ret
    rw [HN.out]
    exact ⟨rfl, HW.out.wrTo (Below.refl _ _)⟩
  have HN : Aside0 (wPut L v m = wput L (numb v m)) := ⟨by unfold wPut; rw [if_neg (by simp only [Int.toNat_natCast]; omega)]; simp⟩
  have d4 : decide (2 ^ m ≤ v) = false := by simpa using h4
  have d4' : decide (wrap64 (2 ^ min m 64) ≤ v) = false := by rw [hs]; simpa using h4
  have hv2 : v ≤ 4294967296 := by omega
  clear no hs h4
  go_enter Try.func75, Try.ntmps75
  go_wp2_with (first
    | (go_at_call 95; refine (Number_any v m _ (by omega) (by omega) (by omega)).mono ?_; rintro e w1 ⟨g1, S1, rfl, hr, hs, hb⟩; obtain ⟨A1, c1, hv1, _, hC1⟩ := Kd.R_reads hr; rw [numb_length] at hv1 hC1; cases hv1; have HC1 := Aside0.mk hC1; have HB1 := Aside0.mk hb; clear hr hs hC1 hb)
    | (go_at_call 68; refine (RefPut_any S p L _ _ _ _ _ (HW.out.below HB1.out) HC1.out (numb_01 _ _) hL (by omega)).mono ?_; rintro e w2 ⟨rfl, h2⟩; have H2 := Aside0.mk h2; clear h2))
  go_ret
  rw [HN.out]
  exact ⟨rfl, RWrTo.glue (fun k hk => .inl hk) (Fr.below HB1.out _) H2.out⟩

set_option maxHeartbeats 1000000 in
set_option maxRecDepth 100000 in
theorem RAppend_any (S : Nat → Prop) (p : Nat) (L : List Int) (A : Option Addr) (c : Nat) (B : List Int) (n : Int) (w : World) (hW : RWr w S p L) (hL : L.length ≤ 1048576) (hC : Kd.C (Kd.int .u8) w A B.length B) (hB : is8 B) (hBl : B.length ≤ 10000000) :
    Calls Try.prog 34 #[.pointer (some ⟨p, 0, none⟩), .slice A B.length c, .int .i64 n] w fun e w' => e = .returned (.int .i64 (wAppend L B n).1) ∧ RWrTo w S p (wAppend L B n).2 w' := by
  have HW := Aside0.mk hW
  have HC := Aside0.mk hC
  have H8 := Aside0.mk hB
  clear hW hC hB
  have no : n < 0 ∨ 8 * (B.length : Int) < n → Aside0 (wAppend L B n = (1, L)) := fun h => ⟨by unfold wAppend; rw [if_pos h]⟩
  by_cases h1 : n < 0
  · have HN := no (.inl h1)
    have d1 : decide (n < 0) = true := by simpa using h1
    clear no
    go_enter Try.func34, Try.ntmps34
    go_wp2_with fail
    go_ret
    rw [HN.out]
    exact ⟨rfl, HW.out.wrTo (Below.refl _ _)⟩
  obtain ⟨m, rfl⟩ : ∃ m : Nat, n = m := ⟨n.toNat, by omega⟩
  have d1 : decide ((m : Int) < 0) = false := by simp
  by_cases h2 : 8 * (B.length : Int) < m
  · have HN := no (.inr h2)
    have d2 : decide (8 * (B.length : Int) < (m : Int)) = true := by simpa using h2
    clear no
    go_enter Try.func34, Try.ntmps34
    go_wp2_with fail
    go_ret
    rw [HN.out]
    exact ⟨rfl, HW.out.wrTo (Below.refl _ _)⟩
  have d2 : decide (8 * (B.length : Int) < (m : Int)) = false := by simpa using h2
  have HN : Aside0 (wAppend L B m = wput L (ofB B m)) := ⟨by unfold wAppend; rw [if_neg (by omega)]; simp⟩
  have hm8 : m ≤ 8 * B.length := by omega
  clear no h1 h2
  go_enter Try.func34, Try.ntmps34
  go_wp2_with (first
    | (go_at_call 53; refine (Of_any A B.length c m B _ HC.out H8.out hm8 (by omega)).mono ?_; rintro e w1 ⟨v1, S1, rfl, hr, hs, hb⟩; obtain ⟨A1, c1, hv1, _, hC1⟩ := Kd.R_reads hr; rw [ofB_length] at hv1 hC1; cases hv1; have HC1 := Aside0.mk hC1; have HB1 := Aside0.mk hb; clear hr hs hC1 hb)
    | (go_at_call 68; refine (RefPut_any S p L _ _ _ _ _ (HW.out.below HB1.out) HC1.out (ofB_01 _ _) hL (by omega)).mono ?_; rintro e w2 ⟨rfl, h2⟩; have H2 := Aside0.mk h2; clear h2))
  go_ret
  rw [HN.out]
  exact ⟨rfl, RWrTo.glue (fun k hk => .inl hk) (Fr.below HB1.out _) H2.out⟩

set_option maxHeartbeats 1000000 in
set_option maxRecDepth 100000 in
theorem unary_any (n : Nat) (w : World) (hn : n ≤ 1000) :
    Calls Try.prog 99 #[.int .i64 n] w fun e w' => ∃ g S', e = .returned (.slice (some ⟨g, 0, none⟩) (n + 1) (n + 1)) ∧ RB S' w' (.slice (some ⟨g, 0, none⟩) (n + 1) (n + 1)) (numb 0 n ++ numb 1 1) ∧ (∀ k, S' k → w.heap.size ≤ k) ∧ Below w.heap.size w w' := by
  have hmk := print_make_of (P := Try.prog) 27 5 (.int .u8 0) 1 Try.underlying27 binfo rfl (by decide) (n + 1) (by omega)
  rw [show ((n + 1 : Nat) : Int) = (n : Int) + 1 by omega] at hmk
  have hr := made8 w (n + 1) (by omega)
  have hcell := Kd.R_celln 0 hr (n : Int) (by omega) (by omega)
  rw [Int.toNat_natCast] at hcell
  obtain ⟨hc1, hc2⟩ := hcell
  have hr2 := Kd.R_putn hr (n : Int) 1
  have e : (List.replicate (n + 1) (0 : Int)).set n 1 = numb 0 n ++ numb 1 1 := by
    have e0 : numb 0 n = List.replicate n 0 := by
      unfold numb
      rw [List.eq_replicate_iff]
      refine ⟨by simp, fun b hb => ?_⟩
      obtain ⟨j, _, rfl⟩ := List.mem_map.1 hb
      simp
    rw [e0, List.replicate_succ', List.set_append_right _ _ (by simp)]
    simp [numb]
  rw [Int.toNat_natCast, e] at hr2
  rw [World.setCell_alloc_at _ _ _ _ _ rfl] at hr2
  have HR2 := Aside0.mk hr2
  have i3 : (0 : Int) ≤ (n : Int) := by omega
  have i4 : (n : Int) < (n : Int) + 1 := by omega
  clear hr hr2 e
  go_enter Try.func99, Try.ntmps99
  go_wp2_with fail
  go_ret
  exact ⟨_, _, rfl, HR2.out, fun k hk => by omega, below_alloc (Below.refl _ _) _⟩

set_option maxHeartbeats 1000000 in
set_option maxRecDepth 100000 in
theorem RUnaryW_any (S : Nat → Prop) (p : Nat) (L : List Int) (n : Int) (w : World) (hW : RWr w S p L) (hL : L.length ≤ 1048576) :
    Calls Try.prog 92 #[.pointer (some ⟨p, 0, none⟩), .int .i64 n] w fun e w' => e = .returned (.int .i64 (wUnary L n).1) ∧ RWrTo w S p (wUnary L n).2 w' := by
  have HW := Aside0.mk hW
  clear hW
  have no : n < 0 ∨ 1000 < n → Aside0 (wUnary L n = (1, L)) := fun h => ⟨by unfold wUnary; rw [if_pos h]⟩
  by_cases h1 : n < 0
  · have HN := no (.inl h1)
    have d1 : decide (n < 0) = true := by simpa using h1
    clear no
    go_enter Try.func92, Try.ntmps92
    go_wp2_with fail
    go_ret
    rw [HN.out]
    exact ⟨rfl, HW.out.wrTo (Below.refl _ _)⟩
  by_cases h2 : 1000 < n
  · have HN := no (.inr h2)
    have d1 : decide (n < 0) = false := by simpa using h1
    have d2 : decide (1000 < n) = true := by simpa using h2
    clear no
    go_enter Try.func92, Try.ntmps92
    go_wp2_with fail
    go_ret
    rw [HN.out]
    exact ⟨rfl, HW.out.wrTo (Below.refl _ _)⟩
  obtain ⟨m, rfl⟩ : ∃ m : Nat, n = m := ⟨n.toNat, by omega⟩
  have d1 : decide ((m : Int) < 0) = false := by simp
  have d2 : decide (1000 < (m : Int)) = false := by simpa using h2
  have HN : Aside0 (wUnary L m = wput L (numb 0 m ++ numb 1 1)) := ⟨by unfold wUnary; rw [if_neg (by omega)]; simp⟩
  have hm : m ≤ 1000 := by omega
  clear no h1 h2
  go_enter Try.func92, Try.ntmps92
  go_wp2_with (first
    | (go_at_call 99; refine (unary_any m _ hm).mono ?_; rintro e w1 ⟨g1, S1, rfl, hr, hs, hb⟩; obtain ⟨A1, c1, hv1, _, hC1⟩ := Kd.R_reads hr; rw [List.length_append, numb_length, numb_length] at hv1 hC1; cases hv1; have HC1 := Aside0.mk hC1; have HB1 := Aside0.mk hb; clear hr hs hC1 hb)
    | (go_at_call 68; refine (RefPut_any S p L _ _ _ _ _ (HW.out.below HB1.out) HC1.out (is01_append (numb_01 _ _) (numb_01 _ _)) hL (by omega)).mono ?_; rintro e w2 ⟨rfl, h2⟩; have H2 := Aside0.mk h2; clear h2))
  go_ret
  rw [HN.out]
  exact ⟨rfl, RWrTo.glue (fun k hk => .inl hk) (Fr.below HB1.out _) H2.out⟩

set_option maxHeartbeats 1000000 in
set_option maxRecDepth 100000 in
theorem RLen_any (S : Nat → Prop) (p : Nat) (L : List Int) (w : World) (hW : RWr w S p L) : Calls Try.prog 38 #[.pointer (some ⟨p, 0, none⟩)] w fun e w' => e = .returned (.int .i64 (L.length : Int)) ∧ w' = w := by
  obtain ⟨v, hb, hr⟩ := hW.blk
  obtain ⟨A, c, e⟩ := Kd.R_slice hr
  subst e
  have c0 := cell_of_one hb
  clear hW hb hr
  go_enter Try.func38, Try.ntmps38
  go_wp2_with fail
  go_ret
  exact ⟨rfl, rfl⟩

set_option maxHeartbeats 1000000 in
set_option maxRecDepth 100000 in
theorem RBytes_any (S : Nat → Prop) (p : Nat) (L : List Int) (w : World) (hW : RWr w S p L) (hL : L.length ≤ 1048576) :
    Calls Try.prog 41 #[.pointer (some ⟨p, 0, none⟩)] w fun e w' => ∃ v S', e = .returned v ∧ RB S' w' v (pk L) ∧ (∀ k, S' k → w.heap.size ≤ k) ∧ Below w.heap.size w w' := by
  obtain ⟨v, hb, hr⟩ := hW.blk
  obtain ⟨A, c, e, _, hC⟩ := Kd.R_reads hr
  subst e
  have c0 := cell_of_one hb
  have HP := Aside0.mk (Pack_any A L.length c L w hC hW.bits (by omega))
  clear hW hb hr hC
  go_enter Try.func41, Try.ntmps41
  go_wp2_with (go_at_call 72; refine HP.out.mono ?_; rintro e w1 ⟨v1, S1, rfl, hr, hs, hb⟩; have HR := Aside0.mk hr; have HS := Aside0.mk hs; have HB := Aside0.mk hb; clear hr hs hb)
  go_ret
  exact ⟨v1, S1, rfl, HR.out, HS.out, HB.out⟩
end Go.Proofs.Ytnpheeendbchbaa.P
end
section
namespace Go.Proofs.Ytnpheeendbchbaa.P
open Go.RowKit Go.Shelf Go.Proofs.Ytnpheeendbchbaa.Bits Go.Proofs.YtnpheeendbchbaaW.PrintWords Go.Proofs.YtnpheeendbchbaaW.PrintLast Go.Proofs.YtnpheeendbchbaaW.PrintMore
set_option linter.unusedVariables false
set_option linter.unusedSimpArgs false
attribute [local go_sem ↓] Go.wp_at_zero Go.wp_at_succ

/-- How many bits a writer of the reference has. -/
def rbitsIn (w : World) (p : Nat) : Nat := match w.cell? ⟨p, 0, none⟩ with | some (.slice _ n _) => n | _ => 0
theorem RWr.rbits {w : World} {S : Nat → Prop} {p : Nat} {L : List Int} (h : RWr w S p L) : rbitsIn w p = L.length := by
  obtain ⟨v, hb, hr⟩ := h.blk
  obtain ⟨A, c, e⟩ := Kd.R_slice hr
  subst e
  unfold rbitsIn
  rw [cell_of_one hb]

theorem numb_zero (n : Nat) : numb 0 n = List.replicate n 0 := by
  unfold numb
  rw [List.eq_replicate_iff]
  refine ⟨by simp, fun b hb => ?_⟩
  obtain ⟨j, _, rfl⟩ := List.mem_map.1 hb
  simp
/-- append of bytes in a region that draws. -/
theorem step_append8 {ops : Array Oper} {o : Oper} {a : Act} {K : Act → World → Prop} {Q : Exit → Act → World → Prop} {E : Prop} {W : World} {S : Nat → Prop} (hgd : o.guard = none) (s x : Operand)
    (ho : o.op = .call { callee := .builtin .append, args := #[s, x], argTypes := #[27, 27] }) (hty : o.type = 27) (v : Value) (xs ys : List Int) (A : Option Addr) (m c : Nat) (hs : a.eval s = v) (hx : a.eval x = .slice A m c)
    (HO : RB S W v xs) (HR : Kd.C (Kd.int .u8) W A m ys) (hl : xs.length + m ≤ 140737488355328) (h : ∀ v1 w1, RB (fun k => S k ∨ k = W.heap.size) w1 v1 (xs ++ ys) → W.grownBy w1 v.ownBlock → K (a.put o.dst v1) w1) :
    if Region.wanted o (yielded ops a.tmps) = true then Oper.wp Try.prog o a W K Q else E := by
  obtain ⟨v1, w1, hrun, hr, hg⟩ := append_run W v xs ys A m c HO HR hl
  exact step_run_append hgd s x _ ho v _ hs hx (by rw [hty]; exact hrun) (h v1 w1 hr hg)

end Go.Proofs.Ytnpheeendbchbaa.P
end
section
namespace Go.Proofs.Ytnpheeendbchbaa.P
open Go.RowKit Go.Shelf Go.Proofs.Ytnpheeendbchbaa.Bits Go.Proofs.YtnpheeendbchbaaW.PrintWords Go.Proofs.YtnpheeendbchbaaW.PrintLast Go.Proofs.YtnpheeendbchbaaW.PrintMore
set_option linter.unusedVariables false
set_option linter.unusedSimpArgs false
attribute [local go_sem ↓] Go.wp_at_zero Go.wp_at_succ

/-- A call: its kind, its two numbers, its bytes and where these lie. -/
structure OpD where
  kind : Nat
  v : Int
  n : Int
  A : Option Addr
  c : Nat
  B : List Int
/-- The value of a call. -/
def OpD.val (o : OpD) : Value := .agg #[.int .u8 (o.kind : Int), .int .i64 o.v, .int .i64 o.n, .slice o.A o.B.length o.c]
/-- A call that is in memory: what it says is so. -/
structure OpD.ok (w : World) (o : OpD) : Prop where
  kind : o.kind < 256
  v : -9223372036854775808 ≤ o.v ∧ o.v ≤ 9223372036854775807
  n : -9223372036854775808 ≤ o.n ∧ o.n ≤ 9223372036854775807
  bytes : Kd.C (Kd.int .u8) w o.A o.B.length o.B
  is8 : Bits.is8 o.B
  cap : o.B.length ≤ o.c
  short : o.B.length ≤ 4611686018427387904
  blk : ∀ ad, o.A = some ad → 0 < o.B.length → ad.block < w.heap.size
/-- Calls in memory, one after the other. -/
structure OpsAt (w : World) (X : Option Addr) (ops : List OpD) : Prop where
  cells : ∀ i (h : i < ops.length), ∃ x, X = some x ∧ w.cell? (x.add (i * 4)) = some (.int .u8 (ops[i].kind : Int)) ∧ w.cell? ⟨(x.add (i * 4)).block, (x.add (i * 4)).off + 1, none⟩ = some (.int .i64 ops[i].v) ∧ w.cell? ⟨(x.add (i * 4)).block, (x.add (i * 4)).off + 2, none⟩ = some (.int .i64 ops[i].n) ∧ w.cell? ⟨(x.add (i * 4)).block, (x.add (i * 4)).off + 3, none⟩ = some (.slice ops[i].A ops[i].B.length ops[i].c)
  ok : ∀ o ∈ ops, o.ok w
theorem OpD.ok.below {w w' : World} {o : OpD} (h : o.ok w) (hb : Below w.heap.size w w') : o.ok w' :=
  ⟨h.kind, h.v, h.n, Kd.C_below h.bytes hb, h.is8, h.cap, h.short, fun ad e hn => Nat.lt_of_lt_of_le (h.blk ad e hn) hb.size⟩
theorem OpsAt.below {w w' : World} {X : Option Addr} {ops : List OpD} (h : OpsAt w X ops) (hb : Below w.heap.size w w') : OpsAt w' X ops :=
  ⟨fun i hi => by
    obtain ⟨x, e, h0, h1, h2, h3⟩ := h.cells i hi
    exact ⟨x, e, pw_cell_below hb h0, pw_cell_below hb h1, pw_cell_below hb h2, pw_cell_below hb h3⟩, fun o ho => (h.ok o ho).below hb⟩

def bulk (ops : List OpD) : Nat := (ops.map fun o => o.B.length).sum
def fewB (ops : List OpD) : Bool := decide (bulk ops ≤ 140000) && decide (ops.length ≤ 60)
theorem bulk_take (ops : List OpD) (i : Nat) (h : i < ops.length) : bulk (ops.take (i + 1)) = bulk (ops.take i) + ops[i].B.length := by
  unfold bulk
  rw [List.take_succ_eq_append_getElem h, List.map_append, List.sum_append]
  simp
theorem bulk_take_le (ops : List OpD) (i : Nat) : bulk (ops.take i) ≤ bulk ops := by
  unfold bulk
  have := List.sum_append (l₁ := (ops.take i).map fun o => o.B.length) (l₂ := (ops.drop i).map fun o => o.B.length)
  rw [← List.map_append, List.take_append_drop] at this
  omega
theorem bulk_mem (ops : List OpD) (o : OpD) (h : o ∈ ops) : o.B.length ≤ bulk ops := by
  unfold bulk
  induction ops with
  | nil => cases h
  | cons a l ih =>
    rw [List.map_cons, List.sum_cons]
    rcases List.mem_cons.1 h with rfl | h
    · omega
    · have := ih h; omega

def wOp (L : List Int) (o : OpD) : Int × List Int := match o.kind % 6 with
  | 0 => wPut L o.v o.n
  | 1 => wSigned L o.v o.n
  | 2 => wUnary L o.v
  | 3 => wGamma L o.v
  | 4 => wAlign L o.v
  | _ => wAppend L o.B o.n
theorem wput_len (L M : List Int) (h : L.length ≤ 1048576) : (wput L M).2.length ≤ 1048576 := by
  unfold wput putL
  dsimp only
  split
  · exact h
  · rw [List.length_append]; omega
theorem wOp_len (L : List Int) (o : OpD) (h : L.length ≤ 1048576) : (wOp L o).2.length ≤ 1048576 := by
  unfold wOp
  split
  · unfold wPut; split; exact h; exact wput_len _ _ h
  · unfold wSigned; split; exact h; exact wput_len _ _ h
  · unfold wUnary; split; exact h; exact wput_len _ _ h
  · unfold wGamma; split; exact h; exact wput_len _ _ h
  · unfold wAlign; split; exact h
    dsimp only
    rw [List.length_append, List.length_replicate]
    unfold padN
    omega
  · unfold wAppend; split; exact h; exact wput_len _ _ h

end Go.Proofs.Ytnpheeendbchbaa.P
end
section
namespace Go.Proofs.Ytnpheeendbchbaa.P
open Go.ChangeShapes Go.WideShapes Go.ChangeAt Go.RowKit Go.Deep Go.Proofs.Ytnpheeendbchbaa.Bits
open Go.Proofs.YtnpheeendbchbaaW.PrintWords
set_option linter.unusedVariables false
set_option linter.unusedSimpArgs false

theorem wf8 {x : Int} (h : (Lit.int .u8 x).wf = true) : 0 ≤ x ∧ x < 256 := by
  unfold Lit.wf at h
  rw [Bool.and_eq_true, decide_eq_true_eq, decide_eq_true_eq] at h
  have h1 : IntKind.u8.min = 0 := by decide
  have h2 : IntKind.u8.max = 255 := by decide
  omega
theorem wf64 {x : Int} (h : (Lit.int .i64 x).wf = true) : -9223372036854775808 ≤ x ∧ x ≤ 9223372036854775807 := by
  unfold Lit.wf at h
  rw [Bool.and_eq_true, decide_eq_true_eq, decide_eq_true_eq] at h
  have h1 : IntKind.i64.min = -9223372036854775808 := by decide
  have h2 : IntKind.i64.max = 9223372036854775807 := by decide
  omega
theorem weights_mem_all {H : Type} {P : Program} {e : TypeId} : ∀ {l : List (DataW H)} {i : Nat} {d : DataW H}, l[i]? = some d → ∀ n ∈ d.weights P e, n ∈ DataW.weightsAll P e l
  | [], i, d, h, n, hn => by simp at h
  | d0 :: r, 0, d, h, n, hn => by
    simp only [List.getElem?_cons_zero, Option.some.injEq] at h
    subst h
    simp only [DataW.weightsAll, List.mem_append]
    exact .inl hn
  | d0 :: r, i + 1, d, h, n, hn => by
    simp only [List.getElem?_cons_succ] at h
    simp only [DataW.weightsAll, List.mem_append]
    exact .inr (weights_mem_all h n hn)

section
variable {H : Type} {enc : TypeId × Value → H} {W : World} {base : Nat} {spare : Nat → Bool} {held : Bool}
/-- A slice of bytes inside an argument. -/
theorem open_bytes {n : Nat} {v : Value} {y : DataW H × List MemPlace} (h : DataW.trod enc Try.prog W base spare held n 27 [v] = some y) (hw : ∀ m ∈ y.1.weights Try.prog 27, m ≤ reachBytes) :
    ∃ (A : Option Addr) (c : Nat) (B : List Int), v = .slice A B.length c ∧ Kd.C (Kd.int .u8) W A B.length B ∧ is8 B ∧ B.length ≤ c ∧ B.length ≤ reachBytes ∧ ∀ ad, A = some ad → 0 < B.length → ad.block < W.heap.size := by
  have fin : ∀ (a0 : Option Addr) (len0 cap0 : Nat) (z0 : List Int), ((a0 = none ∧ len0 = 0 ∧ cap0 = 0 ∧ z0 = []) ∨ ∃ x, a0 = some x ∧ len0 ≤ cap0 ∧ cap0 ≤ maxLen ∧ z0.length = cap0 ∧ (∀ i, i < z0.length → W.cell? (x.add i) = some (.int .u8 (z0.getD i 0))) ∧ ∀ n ∈ z0, (Lit.int .u8 n).wf = true) → len0 ≤ reachBytes →
      ∃ (A : Option Addr) (c : Nat) (B : List Int), (.slice a0 len0 cap0 : Value) = .slice A B.length c ∧ Kd.C (Kd.int .u8) W A B.length B ∧ is8 B ∧ B.length ≤ c ∧ B.length ≤ reachBytes ∧ ∀ ad, A = some ad → 0 < B.length → ad.block < W.heap.size := by
    intro a0 len0 cap0 z0 w0 hr
    obtain ⟨l0, rfl, hr0, hm0, hw0, hc0⟩ := ReadsInt.ofRowC w0
    have hC : Kd.C (Kd.int .u8) W a0 l0.length l0 := Kd.C_of_reads (d := (0 : Int)) (h1 := fun _ => rfl) hr0
    refine ⟨a0, cap0, l0, rfl, hC, fun b hb => wf8 (hw0 b hb), hc0, hr, fun ad e hn => ?_⟩
    obtain ⟨ad', e', hx⟩ := at8 hC 0 hn
    rw [e] at e'
    cases e'
    have := World.block_lt_of_cell? W _ hx
    rwa [add_block] at this
  rcases open_ints Try.underlying27 Try.underlying5 (by kernel_rfl) h with ⟨hcs, _⟩ | ⟨x, l, c, zs, hcs, _, hl, hm, hz, hx, hcell, hwz⟩
  · cases hcs
    exact fin none 0 0 [] (.inl ⟨rfl, rfl, rfl, rfl⟩) (Nat.zero_le _)
  · cases hcs
    have hlz : l ≤ zs.length := by
      rw [hz]
      split
      · exact hl
      · exact Nat.le_refl _
    have hlen : l ≤ reachBytes := by
      subst hx
      have h1 := hw (((lits (H := H) .u8 (zs.take l)).length + (lits (H := H) .u8 (zs.drop l)).length) * Try.prog.bytesOf 5) (by
        unfold DataW.weights
        rw [Try.underlying27]
        exact List.mem_cons_self)
      have h2 : Try.prog.bytesOf 5 = 1 := by kernel_rfl
      rw [h2, Nat.mul_one] at h1
      have h3 : (lits (H := H) .u8 (zs.take l)).length + (lits (H := H) .u8 (zs.drop l)).length = zs.length := by
        simp [lits]
        omega
      omega
    cases hsp : spare x.block with
    | true =>
      rw [hsp, if_pos rfl] at hz
      exact fin (some x) l c zs (.inr ⟨x, rfl, hl, hm, hz, hcell, hwz⟩) hlen
    | false =>
      rw [hsp, if_neg (by decide)] at hz
      obtain ⟨A, c', B, hv, r⟩ := fin (some x) l l zs (.inr ⟨x, rfl, Nat.le_refl _, Nat.le_trans hl hm, hz, hcell, hwz⟩) hlen
      injection hv with h1 h2 h3
      subst h1
      obtain ⟨r1, r2, r3, r4, r5⟩ := r
      exact ⟨_, c, B, by rw [h2], r1, r2, by omega, r4, r5⟩

end
end Go.Proofs.Ytnpheeendbchbaa.P
end
section
namespace Go.Proofs.Ytnpheeendbchbaa.P
open Go.RowKit Go.Shelf Go.Proofs.Ytnpheeendbchbaa.Bits Go.Proofs.YtnpheeendbchbaaW.PrintWords Go.Proofs.YtnpheeendbchbaaW.PrintLast Go.Proofs.YtnpheeendbchbaaW.PrintMore
set_option linter.unusedVariables false
set_option linter.unusedSimpArgs false
attribute [local go_sem ↓] Go.wp_at_zero Go.wp_at_succ

def xorB (x : Int) (k : Nat) : Int := ((x.toNat ^^^ k : Nat) : Int)
def fbit (low : Bool) (p : Nat) : Nat := if low then 2 ^ (p % 8) else 2 ^ (7 - p % 8)
/-- Bytes with the first i bits of a mask flipped. -/
def fl (low : Bool) (a0 mask : Nat) (B : List Int) : Nat → List Int
  | 0 => B
  | i + 1 => if mask / 2 ^ i % 2 = 0 ∨ 8 * B.length ≤ a0 + i then fl low a0 mask B i else (fl low a0 mask B i).set ((a0 + i) / 8) (xorB ((fl low a0 mask B i).getD ((a0 + i) / 8) 0) (fbit low (a0 + i)))
theorem fl_length (low : Bool) (a0 mask : Nat) (B : List Int) : ∀ i, (fl low a0 mask B i).length = B.length
  | 0 => rfl
  | i + 1 => by
    rw [fl]
    split
    · exact fl_length low a0 mask B i
    · rw [List.length_set, fl_length low a0 mask B i]
theorem fbit_lt (low : Bool) (p : Nat) : fbit low p < 256 := by
  unfold fbit
  split
  · have := Nat.pow_le_pow_right (show 0 < 2 by omega) (show p % 8 ≤ 7 by omega); omega
  · have := Nat.pow_le_pow_right (show 0 < 2 by omega) (show 7 - p % 8 ≤ 7 by omega); omega
theorem xorB_8 (x : Int) (k : Nat) (h : 0 ≤ x ∧ x < 256) (hk : k < 256) : 0 ≤ xorB x k ∧ xorB x k < 256 := by
  unfold xorB
  have : x.toNat ^^^ k < 2 ^ 8 := Nat.xor_lt_two_pow (by omega) (by omega)
  omega
theorem is8_set {B : List Int} (h : is8 B) (i : Nat) (x : Int) (hx : 0 ≤ x ∧ x < 256) : is8 (B.set i x) := fun b hb => by
  rcases List.mem_or_eq_of_mem_set hb with q | q
  · exact h b q
  · subst q; exact hx
theorem fl_8 (low : Bool) (a0 mask : Nat) {B : List Int} (h : is8 B) : ∀ i, is8 (fl low a0 mask B i)
  | 0 => h
  | i + 1 => by
    rw [fl]
    split
    · exact fl_8 low a0 mask h i
    · exact is8_set (fl_8 low a0 mask h i) _ _ (xorB_8 _ _ (getD8 (fl_8 low a0 mask h i) _) (fbit_lt _ _))
theorem and1_u32 (x : Int) (h : 0 ≤ x ∧ x < 4294967296) : Go.bits .and .u32 x 1 = x % 2 := by
  show IntKind.u32.wrap ((BitVec.ofInt 32 x &&& BitVec.ofInt 32 1).toNat : Int) = _
  have e : (BitVec.ofInt 32 (1 : Int)).toNat = 1 := by decide
  rw [BitVec.toNat_and, e, Nat.and_one_is_mod, BitVec.toNat_ofInt]
  have : IntKind.u32.wrap (((x % (2 ^ 32 : Nat)).toNat % 2 : Nat) : Int) = (((x % (2 ^ 32 : Nat)).toNat % 2 : Nat) : Int) := IntWalk.u32_in _ (by omega)
  rw [this]
  omega
theorem shl_bit (m : Nat) (h : m < 8) : (1 : Int) * 2 ^ m = ((2 ^ m : Nat) : Int) := by rw [Int.natCast_pow]; simp
theorem own_addr {S : Nat → Prop} {w : World} {v : Value} {B : List Int} (h : RB S w v B) (hl : 0 < B.length) : ∃ g c, v = .slice (some ⟨g, 0, none⟩) B.length c ∧ S g := by
  have h1 := Kd.own_of_R h
  have hle : (encs (Value.int .u8) B).length = B.length := by simp [encs]
  rcases h1.2 with ⟨rfl, hn⟩ | ⟨g, cap, cur, rfl, _⟩
  · omega
  · exact ⟨g, cap, rfl, h.1 g (by simp [Value.ownBlock])⟩

end Go.Proofs.Ytnpheeendbchbaa.P
end
