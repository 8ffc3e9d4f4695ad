/- The walk of BitsBursts. -/
import Derived.Test.YtmjekkkpbcehoaaCb
import Derived.Test.YtmjekkkpbcehoaaBr
namespace Go.Proofs.Ytmjekkkpbcehoaa.P
open Go.RowKit Go.Shelf Go.Proofs.Ytmjekkkpbcehoaa.Bits Go.Proofs.YtmjekkkpbcehoaaW.PrintWords Go.Proofs.YtmjekkkpbcehoaaW.PrintLast Go.Proofs.YtmjekkkpbcehoaaW.PrintMore
set_option linter.unusedVariables false
set_option linter.unusedSimpArgs false
attribute [local go_sem ↓] Go.wp_at_zero Go.wp_at_succ

theorem wpList_run_append_g {P : Program} {ops : Array Oper} {rest : List Oper} {o : Oper} {a : Act} {Q : Exit → Act → World → Prop} {W w1 : World} {v1 : Value} (hw : Region.wanted o (yielded ops a.tmps) = true) (s x : Operand) (t : TypeId)
    (ho : o.op = .call { callee := .builtin .append, args := #[s, x], argTypes := #[t, t] }) (v y : Value) (hs : a.eval s = v) (hx : a.eval x = y) (hrun : (Builtin.append_ #[t, t] o.type #[v, y]).run P W = .ok v1 w1) (h : wpList P ops Q rest (a.put o.dst v1) w1) :
    wpList P ops Q (o :: rest) a W := by
  refine BigFrame.wpList_want hw fun K hK => ?_
  unfold Oper.wp execOp
  simp only [ho, resolve, invoke, builtin, Sem.run_bind, Sem.run_pure, Result.andThen_ok, List.map_toArray, List.map_cons, List.map_nil, hs, hx, hrun]
  exact hK _ _ h

theorem bursts_tail (A : Option Addr) (c s : Nat) (B : List Int) (w6 : World) (hC : Kd.C (Kd.int .u8) w6 A B.length B) (h0 : 0 < B.length) (hl : B.length ≤ 3000) :
    ∃ v1 w7 A9 c9 w8, (Builtin.append_ #[22, 22] 22 #[.slice (some ⟨w6.heap.size, 0, none⟩) 0 0, .slice A B.length c]).run Try.prog (w6.alloc noBytes) = .ok v1 w7 ∧
      (Builtin.append_ #[22, 22] 22 #[v1, .slice (some ⟨w7.heap.size, 0, none⟩) 2 2]).run Try.prog (w7.alloc (.cells #[.int .u8 ((s : Int) / 256), .int .u8 ((s : Int) % 256)] 5)) = .ok (.slice A9 (B.length + 2) c9) w8 ∧
      Kd.C (Kd.int .u8) w8 A9 (B.length + 2) (B ++ [(s : Int) / 256, (s : Int) % 256]) ∧ Below w6.heap.size w6 w8 := by
  obtain ⟨v1, w7, hrun1, hr1, hg1⟩ := append_run (S := fun k => k = w6.heap.size) (w6.alloc noBytes) (.slice (some ⟨w6.heap.size, 0, none⟩) 0 0) [] B A B.length c (empty_R w6) (Kd.C_alloc hC _) (by simp; omega)
  rw [List.nil_append] at hr1
  have hb7 : Below w6.heap.size w6 w7 := (below_alloc (Below.refl _ _) _).grown hg1 (by simp) (fun k hk => by
    have : w6.heap.size = k := by simpa [Value.ownBlock] using hk
    omega)
  obtain ⟨g7, c7, ev7, hg7⟩ := own_addr hr1 h0
  subst ev7
  have h2 : RB (fun k => k = w7.heap.size) (w7.alloc (.cells #[.int .u8 ((s : Int) / 256), .int .u8 ((s : Int) % 256)] 5)) (.slice (some ⟨w7.heap.size, 0, none⟩) 2 2) [(s : Int) / 256, (s : Int) % 256] :=
    Kd.R_of_own (own_lit_of (enc := fun x => Value.int .u8 x) w7 0 5 [(s : Int) / 256, (s : Int) % 256] (Nat.zero_le _) (by simp)) (fun k hk => by simpa [Value.ownBlock] using hk.symm)
  have hC2 : Kd.C (Kd.int .u8) (w7.alloc (.cells #[.int .u8 ((s : Int) / 256), .int .u8 ((s : Int) % 256)] 5)) (some ⟨w7.heap.size, 0, none⟩) 2 [(s : Int) / 256, (s : Int) % 256] := (Kd.R_reads' h2).2.2
  obtain ⟨v2, w8, hrun2, hr2, hg2⟩ := append_run (w7.alloc (.cells #[.int .u8 ((s : Int) / 256), .int .u8 ((s : Int) % 256)] 5)) (.slice (some ⟨g7, 0, none⟩) B.length c7) B [(s : Int) / 256, (s : Int) % 256] (some ⟨w7.heap.size, 0, none⟩) 2 2 (Kd.R_alloc hr1 _) hC2 (by omega)
  have hb8 : Below w6.heap.size w6 w8 := (hb7.alloc hb7.size _).grown hg2 (by have := hb7.size; simp; omega) (fun k hk => by
    have : g7 = k := by simpa [Value.ownBlock] using hk
    subst this
    rcases hg7 with q | q
    · omega
    · simp at q; omega)
  obtain ⟨A9, c9, ev, _, hC9⟩ := Kd.R_reads hr2
  subst ev
  have hl9 : (B ++ [(s : Int) / 256, (s : Int) % 256]).length = B.length + 2 := by simp
  rw [hl9] at hrun2 hC9
  exact ⟨_, _, A9, c9, w8, hrun1, hrun2, hC9, hb8⟩

set_option maxHeartbeats 8000000 in
set_option maxRecDepth 100000 in
theorem BitsBursts_any (A : Option Addr) (c mask : Nat) (at_ : Int) (B : List Int) (w : World) (hC : Kd.C (Kd.int .u8) w A B.length B) (h8 : is8 B) (hat : -9223372036854775808 ≤ at_ ∧ at_ ≤ 9223372036854775807) (hm : mask < 4294967296) :
    Calls Try.prog 4 #[.slice A B.length c, .int .i64 at_, .int .u32 mask] w fun e w' => e = .returned (.bool true) ∧ Below w.heap.size w w' := by
  have HC := Aside0.mk hC
  have H8 := Aside0.mk h8
  clear hC h8
  by_cases hl : 3000 < B.length
  · have d1 : decide ((3000 : Int) < (B.length : Int)) = true := by simp; omega
    go_enter Try.func4, Try.ntmps4
    go_wp2_with fail
    refine (awake_any w).mono ?_
    rintro e w1 ⟨rfl, hb⟩
    go_wp2_with fail
    go_ret
    exact ⟨rfl, hb⟩
  have d1 : decide ((3000 : Int) < (B.length : Int)) = false := by simp; omega
  by_cases hz : B.length = 0
  · have q1 : ((B.length : Int) == 0) = true := by simp [hz]
    clear hz
    go_enter Try.func4, Try.ntmps4
    go_wp2_with fail
    refine (awake_any w).mono ?_
    rintro e w1 ⟨rfl, hb⟩
    go_wp2_with fail
    go_ret
    exact ⟨rfl, hb⟩
  have q1 : ((B.length : Int) == 0) = false := by simp [hz]
  obtain ⟨p, hp⟩ : ∃ p : Nat, (at_ % 18446744073709551616) % (8 * (B.length : Int)) = (p : Int) := ⟨((at_ % 18446744073709551616) % (8 * (B.length : Int))).toNat, by
    have := Int.emod_nonneg (at_ % 18446744073709551616) (show (8 * (B.length : Int)) ≠ 0 by omega)
    omega⟩
  have hpl : p < 8 * B.length := by
    have := Int.emod_lt_of_pos (at_ % 18446744073709551616) (show 0 < 8 * (B.length : Int) by omega)
    omega
  -- cases
  have hpw : wrap64 ((IntKind.u64.wrap at_).tmod (8 * (B.length : Int))) = (p : Int) := by
    have e0 : IntKind.u64.wrap at_ = at_ % 18446744073709551616 := by rw [IntKind.wrap_u64]
    rw [e0, Int.tmod_eq_emod_of_nonneg (by omega), hp, wrap64_id (by omega) (by omega)]
  have hmm : (mask : Int) % 65536 = ((mask % 65536 : Nat) : Int) := by omega
  have hx16 := law16 p (mask % 65536) H8.out (by omega)
  have hx32 := law32 p mask H8.out
  have hown := lawOwn B
  have hF1 := fun W h => flipped_any A c p (mask % 65536) false B W h H8.out (by omega) (by omega) hpl (by omega)
  simp only [← hmm] at hF1
  have hF2 := fun W h => flipped_any A c p mask true B W h H8.out (by omega) (by omega) hpl hm
  have hlx := fl_length false p (mask % 65536) B 32
  have hly := fl_length true p mask B 32
  have hx8 := fl_8 false p (mask % 65536) H8.out 32
  have hy8 := fl_8 true p mask H8.out 32
  generalize fl false p (mask % 65536) B 32 = X at *
  generalize fl true p mask B 32 = Y at *
  have hs1 := fold16_lt (ofB B (8 * B.length)) 65535 (by omega)
  have hs2 : crc16 (ofB B (8 * B.length)) < 65536 := hs1
  have hc1 := fun W h => Crc16_any A B.length c B W h H8.out (by omega)
  generalize hS : crc16 (ofB B (8 * B.length)) = s at *
  have HS := Aside0.mk hS
  have HX16 := Aside0.mk hx16
  have HX32 := Aside0.mk hx32
  have HF1 := Aside0.mk hF1
  have HF2 := Aside0.mk hF2
  have HX8 := Aside0.mk hx8
  have HY8 := Aside0.mk hy8
  have HC1 := Aside0.mk hc1
  have hlB : B.length ≤ 3000 := by omega
  have hcc := fun A9 c9 W h => Crc16_any A9 (B.length + 2) c9 (B ++ [(s : Int) / 256, (s : Int) % 256]) W h (fun b hb => by
    rcases List.mem_append.1 hb with q | q
    · exact H8.out b q
    · simp at q; rcases q with q | q <;> omega) (by omega)
  have e256 : ((s / 256 : Nat) : Int) = (s : Int) / 256 := by omega
  have e257 : ((s % 256 : Nat) : Int) = (s : Int) % 256 := by omega
  rw [e256, e257] at hown
  rw [hown] at hcc
  have HCC := Aside0.mk hcc
  clear hcc e256 e257
  have hlB0 : 0 < B.length := by omega
  have q3 : decide ((0 : Int) ≤ (s : Int)) = true := by simp
  have q4 : decide ((s : Int) < 65536) = true := by simp; omega
  have HL := Aside0.mk (show B.length ≤ 3000 ∧ 0 < B.length ∧ X.length = B.length ∧ Y.length = B.length from ⟨hlB, hlB0, hlx, hly⟩)
  clear hS hmm hx16 hx32 hown hF1 hF2 hx8 hy8 hc1 hs1 hp hpl hl hz hm hat hlx hly
  by_cases hX : X = B
  · by_cases hY : Y = B
    · have dx : decide (X = B) = true := decide_eq_true hX
      have dy : decide (Y = B) = true := decide_eq_true hY
      clear hX hY
      go_enter Try.func4, Try.ntmps4
      go_wp2_with fail
      refine (HF1.out w HC.out).mono ?_
      rintro e w1 ⟨v1, S1, rfl, hr1, hs1, hb⟩
      obtain ⟨A1, c1, hv, _, hC1⟩ := Kd.R_reads hr1
      subst hv
      have HB1 := Aside0.mk hb
      have HCx1 := Aside0.mk hC1
      clear hb hr1 hs1 hC1
      go_wp2_with fail
      refine (HF2.out w1 (Kd.C_below HC.out HB1.out)).mono ?_
      rintro e w2 ⟨v2, S2, rfl, hr2, hs2', hb⟩
      obtain ⟨A2, c2, hv, _, hC2⟩ := Kd.R_reads hr2
      subst hv
      have HCx2 := Aside0.mk (Kd.C_below HCx1.out hb)
      have HB2 := Aside0.mk (HB1.out.trans (hb.mono HB1.out.size))
      have HCy2 := Aside0.mk hC2
      clear hb hr2 hs2' hC2
      go_wp2_with fail
      refine (HC1.out w2 (Kd.C_below HC.out HB2.out)).mono ?_
      rintro e w3 ⟨rfl, hb⟩
      have HCx3 := Aside0.mk (Kd.C_below HCx2.out hb)
      have HCy3 := Aside0.mk (Kd.C_below HCy2.out hb)
      have HB3 := Aside0.mk (HB2.out.trans (hb.mono HB2.out.size))
      clear hb
      go_wp2_with fail
      refine (Same_any _ _ _ _ _ _ _ _ _ HCx3.out (Kd.C_below HC.out HB3.out) (by have := HL.out; omega) (by have := HL.out; omega)).mono ?_
      rintro e w4 ⟨rfl, hd⟩
      have HCx4 := Aside0.mk (Kd.C_below HCx3.out hd.below)
      have HCy4 := Aside0.mk (Kd.C_below HCy3.out hd.below)
      have HB4 := Aside0.mk (HB3.out.trans (hd.below.mono HB3.out.size))
      clear hd
      go_wp2_with fail
      refine (Same_any _ _ _ _ _ _ _ _ _ HCy4.out (Kd.C_below HC.out HB4.out) (by have := HL.out; omega) (by have := HL.out; omega)).mono ?_
      rintro e w6 ⟨rfl, hd⟩
      have HCy6 := Aside0.mk (Kd.C_below HCy4.out hd.below)
      have HB6 := Aside0.mk (HB4.out.trans (hd.below.mono HB4.out.size))
      clear hd
      obtain ⟨v1, w7, A9, c9, w8, hrun1, hrun2, hC9, hb8⟩ := bursts_tail A c s B w6 (Kd.C_below HC.out HB6.out) HL.out.2.1 HL.out.1
      have HRUN1 := Aside0.mk hrun1
      have HRUN2 := Aside0.mk hrun2
      have HC9 := Aside0.mk hC9
      have HB8 := Aside0.mk (HB6.out.trans (hb8.mono HB6.out.size))
      clear hrun1 hrun2 hC9 hb8
      go_wp2_with (at_builtin; first | refine wpList_run_append_g (by kernel_rfl) _ _ _ rfl _ _ rfl rfl HRUN1.out ?_ | refine wpList_run_append_g (by kernel_rfl) _ _ _ rfl _ _ rfl rfl HRUN2.out ?_)
      refine (HCC.out A9 c9 _ HC9.out).mono ?_
      rintro e w9 ⟨rfl, hb⟩
      have HB9 := Aside0.mk (HB8.out.trans (hb.mono HB8.out.size))
      clear hb
      go_wp2_with fail
      refine (awake_any w9).mono ?_
      rintro e w10 ⟨rfl, hb⟩
      go_wp2_with fail
      go_ret
      exact ⟨rfl, HB9.out.trans (hb.mono HB9.out.size)⟩
    · have dx : decide (X = B) = true := decide_eq_true hX
      have dy : decide (Y = B) = false := decide_eq_false hY
      have hCY := fun A' c' W h => Crc32_any A' Y.length c' Y W h HY8.out (by have := HL.out; omega)
      have hCB := fun W h => Crc32_any A B.length c B W h H8.out (by have := HL.out; omega)
      have hne : crc32 Y ≠ crc32 B := fun e => hY (HX32.out e)
      generalize crc32 Y = t' at *
      generalize crc32 B = t at *
      have qy : ((t' : Int) == (t : Int)) = false := by simp; omega
      have HCY := Aside0.mk hCY
      have HCB := Aside0.mk hCB
      clear hCY hCB hne
      clear hX hY
      go_enter Try.func4, Try.ntmps4
      go_wp2_with fail
      refine (HF1.out w HC.out).mono ?_
      rintro e w1 ⟨v1, S1, rfl, hr1, hs1, hb⟩
      obtain ⟨A1, c1, hv, _, hC1⟩ := Kd.R_reads hr1
      subst hv
      have HB1 := Aside0.mk hb
      have HCx1 := Aside0.mk hC1
      clear hb hr1 hs1 hC1
      go_wp2_with fail
      refine (HF2.out w1 (Kd.C_below HC.out HB1.out)).mono ?_
      rintro e w2 ⟨v2, S2, rfl, hr2, hs2', hb⟩
      obtain ⟨A2, c2, hv, _, hC2⟩ := Kd.R_reads hr2
      subst hv
      have HCx2 := Aside0.mk (Kd.C_below HCx1.out hb)
      have HB2 := Aside0.mk (HB1.out.trans (hb.mono HB1.out.size))
      have HCy2 := Aside0.mk hC2
      clear hb hr2 hs2' hC2
      go_wp2_with fail
      refine (HC1.out w2 (Kd.C_below HC.out HB2.out)).mono ?_
      rintro e w3 ⟨rfl, hb⟩
      have HCx3 := Aside0.mk (Kd.C_below HCx2.out hb)
      have HCy3 := Aside0.mk (Kd.C_below HCy2.out hb)
      have HB3 := Aside0.mk (HB2.out.trans (hb.mono HB2.out.size))
      clear hb
      go_wp2_with fail
      refine (Same_any _ _ _ _ _ _ _ _ _ HCx3.out (Kd.C_below HC.out HB3.out) (by have := HL.out; omega) (by have := HL.out; omega)).mono ?_
      rintro e w4 ⟨rfl, hd⟩
      have HCx4 := Aside0.mk (Kd.C_below HCx3.out hd.below)
      have HCy4 := Aside0.mk (Kd.C_below HCy3.out hd.below)
      have HB4 := Aside0.mk (HB3.out.trans (hd.below.mono HB3.out.size))
      clear hd
      go_wp2_with fail
      refine (Same_any _ _ _ _ _ _ _ _ _ HCy4.out (Kd.C_below HC.out HB4.out) (by have := HL.out; omega) (by have := HL.out; omega)).mono ?_
      rintro e w6 ⟨rfl, hd⟩
      have HCy6 := Aside0.mk (Kd.C_below HCy4.out hd.below)
      have HB6 := Aside0.mk (HB4.out.trans (hd.below.mono HB4.out.size))
      clear hd
      go_wp2_with fail
      refine (HCY.out _ _ _ HCy6.out).mono ?_
      rintro e w7 ⟨rfl, hw7⟩
      obtain rfl := hw7.symm
      go_wp2_with fail
      refine (HCB.out _ (Kd.C_below HC.out HB6.out)).mono ?_
      rintro e w8 ⟨rfl, hw8⟩
      obtain rfl := hw8.symm
      obtain ⟨v1, w7, A9, c9, w8, hrun1, hrun2, hC9, hb8⟩ := bursts_tail A c s B w6 (Kd.C_below HC.out HB6.out) HL.out.2.1 HL.out.1
      have HRUN1 := Aside0.mk hrun1
      have HRUN2 := Aside0.mk hrun2
      have HC9 := Aside0.mk hC9
      have HB8 := Aside0.mk (HB6.out.trans (hb8.mono HB6.out.size))
      clear hrun1 hrun2 hC9 hb8
      go_wp2_with (at_builtin; first | refine wpList_run_append_g (by kernel_rfl) _ _ _ rfl _ _ rfl rfl HRUN1.out ?_ | refine wpList_run_append_g (by kernel_rfl) _ _ _ rfl _ _ rfl rfl HRUN2.out ?_)
      refine (HCC.out A9 c9 _ HC9.out).mono ?_
      rintro e w9 ⟨rfl, hb⟩
      have HB9 := Aside0.mk (HB8.out.trans (hb.mono HB8.out.size))
      clear hb
      go_wp2_with fail
      refine (awake_any w9).mono ?_
      rintro e w10 ⟨rfl, hb⟩
      go_wp2_with fail
      go_ret
      exact ⟨rfl, HB9.out.trans (hb.mono HB9.out.size)⟩
  · by_cases hY : Y = B
    · have dx : decide (X = B) = false := decide_eq_false hX
      have dy : decide (Y = B) = true := decide_eq_true hY
      have hCX := fun A' c' W h => Crc16_any A' X.length c' X W h HX8.out (by have := HL.out; omega)
      have hne : crc16 (ofB X (8 * X.length)) ≠ s := by
        rw [HL.out.2.2.1]
        intro e
        exact hX (HX16.out e)
      generalize crc16 (ofB X (8 * X.length)) = s' at *
      have qx : ((s' : Int) == (s : Int)) = false := by simp; omega
      have HCX := Aside0.mk hCX
      clear hCX hne
      clear hX hY
      go_enter Try.func4, Try.ntmps4
      go_wp2_with fail
      refine (HF1.out w HC.out).mono ?_
      rintro e w1 ⟨v1, S1, rfl, hr1, hs1, hb⟩
      obtain ⟨A1, c1, hv, _, hC1⟩ := Kd.R_reads hr1
      subst hv
      have HB1 := Aside0.mk hb
      have HCx1 := Aside0.mk hC1
      clear hb hr1 hs1 hC1
      go_wp2_with fail
      refine (HF2.out w1 (Kd.C_below HC.out HB1.out)).mono ?_
      rintro e w2 ⟨v2, S2, rfl, hr2, hs2', hb⟩
      obtain ⟨A2, c2, hv, _, hC2⟩ := Kd.R_reads hr2
      subst hv
      have HCx2 := Aside0.mk (Kd.C_below HCx1.out hb)
      have HB2 := Aside0.mk (HB1.out.trans (hb.mono HB1.out.size))
      have HCy2 := Aside0.mk hC2
      clear hb hr2 hs2' hC2
      go_wp2_with fail
      refine (HC1.out w2 (Kd.C_below HC.out HB2.out)).mono ?_
      rintro e w3 ⟨rfl, hb⟩
      have HCx3 := Aside0.mk (Kd.C_below HCx2.out hb)
      have HCy3 := Aside0.mk (Kd.C_below HCy2.out hb)
      have HB3 := Aside0.mk (HB2.out.trans (hb.mono HB2.out.size))
      clear hb
      go_wp2_with fail
      refine (Same_any _ _ _ _ _ _ _ _ _ HCx3.out (Kd.C_below HC.out HB3.out) (by have := HL.out; omega) (by have := HL.out; omega)).mono ?_
      rintro e w4 ⟨rfl, hd⟩
      have HCx4 := Aside0.mk (Kd.C_below HCx3.out hd.below)
      have HCy4 := Aside0.mk (Kd.C_below HCy3.out hd.below)
      have HB4 := Aside0.mk (HB3.out.trans (hd.below.mono HB3.out.size))
      clear hd
      go_wp2_with fail
      refine (HCX.out _ _ _ HCx4.out).mono ?_
      rintro e w5 ⟨rfl, hb⟩
      have HCy5 := Aside0.mk (Kd.C_below HCy4.out hb)
      have HB5 := Aside0.mk (HB4.out.trans (hb.mono HB4.out.size))
      clear hb
      go_wp2_with fail
      refine (Same_any _ _ _ _ _ _ _ _ _ HCy5.out (Kd.C_below HC.out HB5.out) (by have := HL.out; omega) (by have := HL.out; omega)).mono ?_
      rintro e w6 ⟨rfl, hd⟩
      have HCy6 := Aside0.mk (Kd.C_below HCy5.out hd.below)
      have HB6 := Aside0.mk (HB5.out.trans (hd.below.mono HB5.out.size))
      clear hd
      obtain ⟨v1, w7, A9, c9, w8, hrun1, hrun2, hC9, hb8⟩ := bursts_tail A c s B w6 (Kd.C_below HC.out HB6.out) HL.out.2.1 HL.out.1
      have HRUN1 := Aside0.mk hrun1
      have HRUN2 := Aside0.mk hrun2
      have HC9 := Aside0.mk hC9
      have HB8 := Aside0.mk (HB6.out.trans (hb8.mono HB6.out.size))
      clear hrun1 hrun2 hC9 hb8
      go_wp2_with (at_builtin; first | refine wpList_run_append_g (by kernel_rfl) _ _ _ rfl _ _ rfl rfl HRUN1.out ?_ | refine wpList_run_append_g (by kernel_rfl) _ _ _ rfl _ _ rfl rfl HRUN2.out ?_)
      refine (HCC.out A9 c9 _ HC9.out).mono ?_
      rintro e w9 ⟨rfl, hb⟩
      have HB9 := Aside0.mk (HB8.out.trans (hb.mono HB8.out.size))
      clear hb
      go_wp2_with fail
      refine (awake_any w9).mono ?_
      rintro e w10 ⟨rfl, hb⟩
      go_wp2_with fail
      go_ret
      exact ⟨rfl, HB9.out.trans (hb.mono HB9.out.size)⟩
    · have dx : decide (X = B) = false := decide_eq_false hX
      have dy : decide (Y = B) = false := decide_eq_false hY
      have hCX := fun A' c' W h => Crc16_any A' X.length c' X W h HX8.out (by have := HL.out; omega)
      have hne : crc16 (ofB X (8 * X.length)) ≠ s := by
        rw [HL.out.2.2.1]
        intro e
        exact hX (HX16.out e)
      generalize crc16 (ofB X (8 * X.length)) = s' at *
      have qx : ((s' : Int) == (s : Int)) = false := by simp; omega
      have HCX := Aside0.mk hCX
      clear hCX hne
      have hCY := fun A' c' W h => Crc32_any A' Y.length c' Y W h HY8.out (by have := HL.out; omega)
      have hCB := fun W h => Crc32_any A B.length c B W h H8.out (by have := HL.out; omega)
      have hne : crc32 Y ≠ crc32 B := fun e => hY (HX32.out e)
      generalize crc32 Y = t' at *
      generalize crc32 B = t at *
      have qy : ((t' : Int) == (t : Int)) = false := by simp; omega
      have HCY := Aside0.mk hCY
      have HCB := Aside0.mk hCB
      clear hCY hCB hne
      clear hX hY
      go_enter Try.func4, Try.ntmps4
      go_wp2_with fail
      refine (HF1.out w HC.out).mono ?_
      rintro e w1 ⟨v1, S1, rfl, hr1, hs1, hb⟩
      obtain ⟨A1, c1, hv, _, hC1⟩ := Kd.R_reads hr1
      subst hv
      have HB1 := Aside0.mk hb
      have HCx1 := Aside0.mk hC1
      clear hb hr1 hs1 hC1
      go_wp2_with fail
      refine (HF2.out w1 (Kd.C_below HC.out HB1.out)).mono ?_
      rintro e w2 ⟨v2, S2, rfl, hr2, hs2', hb⟩
      obtain ⟨A2, c2, hv, _, hC2⟩ := Kd.R_reads hr2
      subst hv
      have HCx2 := Aside0.mk (Kd.C_below HCx1.out hb)
      have HB2 := Aside0.mk (HB1.out.trans (hb.mono HB1.out.size))
      have HCy2 := Aside0.mk hC2
      clear hb hr2 hs2' hC2
      go_wp2_with fail
      refine (HC1.out w2 (Kd.C_below HC.out HB2.out)).mono ?_
      rintro e w3 ⟨rfl, hb⟩
      have HCx3 := Aside0.mk (Kd.C_below HCx2.out hb)
      have HCy3 := Aside0.mk (Kd.C_below HCy2.out hb)
      have HB3 := Aside0.mk (HB2.out.trans (hb.mono HB2.out.size))
      clear hb
      go_wp2_with fail
      refine (Same_any _ _ _ _ _ _ _ _ _ HCx3.out (Kd.C_below HC.out HB3.out) (by have := HL.out; omega) (by have := HL.out; omega)).mono ?_
      rintro e w4 ⟨rfl, hd⟩
      have HCx4 := Aside0.mk (Kd.C_below HCx3.out hd.below)
      have HCy4 := Aside0.mk (Kd.C_below HCy3.out hd.below)
      have HB4 := Aside0.mk (HB3.out.trans (hd.below.mono HB3.out.size))
      clear hd
      go_wp2_with fail
      refine (HCX.out _ _ _ HCx4.out).mono ?_
      rintro e w5 ⟨rfl, hb⟩
      have HCy5 := Aside0.mk (Kd.C_below HCy4.out hb)
      have HB5 := Aside0.mk (HB4.out.trans (hb.mono HB4.out.size))
      clear hb
      go_wp2_with fail
      refine (Same_any _ _ _ _ _ _ _ _ _ HCy5.out (Kd.C_below HC.out HB5.out) (by have := HL.out; omega) (by have := HL.out; omega)).mono ?_
      rintro e w6 ⟨rfl, hd⟩
      have HCy6 := Aside0.mk (Kd.C_below HCy5.out hd.below)
      have HB6 := Aside0.mk (HB5.out.trans (hd.below.mono HB5.out.size))
      clear hd
      go_wp2_with fail
      refine (HCY.out _ _ _ HCy6.out).mono ?_
      rintro e w7 ⟨rfl, hw7⟩
      obtain rfl := hw7.symm
      go_wp2_with fail
      refine (HCB.out _ (Kd.C_below HC.out HB6.out)).mono ?_
      rintro e w8 ⟨rfl, hw8⟩
      obtain rfl := hw8.symm
      obtain ⟨v1, w7, A9, c9, w8, hrun1, hrun2, hC9, hb8⟩ := bursts_tail A c s B w6 (Kd.C_below HC.out HB6.out) HL.out.2.1 HL.out.1
      have HRUN1 := Aside0.mk hrun1
      have HRUN2 := Aside0.mk hrun2
      have HC9 := Aside0.mk hC9
      have HB8 := Aside0.mk (HB6.out.trans (hb8.mono HB6.out.size))
      clear hrun1 hrun2 hC9 hb8
      go_wp2_with (at_builtin; first | refine wpList_run_append_g (by kernel_rfl) _ _ _ rfl _ _ rfl rfl HRUN1.out ?_ | refine wpList_run_append_g (by kernel_rfl) _ _ _ rfl _ _ rfl rfl HRUN2.out ?_)
      refine (HCC.out A9 c9 _ HC9.out).mono ?_
      rintro e w9 ⟨rfl, hb⟩
      have HB9 := Aside0.mk (HB8.out.trans (hb.mono HB8.out.size))
      clear hb
      go_wp2_with fail
      refine (awake_any w9).mono ?_
      rintro e w10 ⟨rfl, hb⟩
      go_wp2_with fail
      go_ret
      exact ⟨rfl, HB9.out.trans (hb.mono HB9.out.size)⟩
end Go.Proofs.Ytmjekkkpbcehoaa.P
