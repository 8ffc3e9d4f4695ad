/- The walk of shawmlaw05.RiceReads. -/
import Derived.Test.YtnpheeendbchbaaHt
namespace Go.Proofs.Ytnpheeendbchbaa.P
open Go.RowKit Go.Shelf Go.Proofs.Ytnpheeendbchbaa.Bits Go.Proofs.YtnpheeendbchbaaW.PrintWords Go.Proofs.YtnpheeendbchbaaW.PrintLast Go.Proofs.YtnpheeendbchbaaW.PrintMore
set_option linter.unusedVariables false
set_option linter.unusedSimpArgs false
attribute [local go_sem ↓] Go.wp_at_zero Go.wp_at_succ

theorem TR.callL' {w0 W : World} {p q a b : Nat} {L : List Int} {f : Nat} {args : Array Value} {X : Ending → World → Prop} {a' : Nat} (h : TR w0 W p q L a b) (hc : ∀ S, Rd W S p L a → Calls Try.prog f args W fun e w' => X e w' ∧ Rd w' S p L a' ∧ Fr (fun k => k = p) W w') :
    Calls Try.prog f args W fun e w' => X e w' ∧ TR w0 w' p q L a' b ∧ Fr (fun k => k = p) W w' := by
  obtain ⟨S, T, h1, h2, h3, h4⟩ := h.ex
  refine (hc S h1).mono ?_
  rintro e w' ⟨he, hr, hf⟩
  exact ⟨he, ⟨⟨S, T, hr, h2.fr hf (fun o => h.ne o.symm) (fun k hk o => h4 (o ▸ hk)), h3, h4⟩, h.ne, h.hp, h.hq, h.low.trans (hf.to_below h.low.size (fun k hk => by rw [hk]; exact h.hp))⟩, hf⟩
theorem TR.callR' {w0 W : World} {p q a b : Nat} {L : List Int} {f : Nat} {args : Array Value} {X : Ending → World → Prop} {b' : Nat} (h : TR w0 W p q L a b) (hc : ∀ S, RRd W S q L b → Calls Try.prog f args W fun e w' => X e w' ∧ RRd w' S q L b' ∧ Fr (fun k => k = q) W w') :
    Calls Try.prog f args W fun e w' => X e w' ∧ TR w0 w' p q L a b' ∧ Fr (fun k => k = q) W w' := by
  obtain ⟨S, T, h1, h2, h3, h4⟩ := h.ex
  refine (hc T h2).mono ?_
  rintro e w' ⟨he, hr, hf⟩
  exact ⟨he, ⟨⟨S, T, h1.fr hf (fun o => h.ne o) (fun k hk o => h3 (o ▸ hk)), hr, h3, h4⟩, h.ne, h.hp, h.hq, h.low.trans (hf.to_below h.low.size (fun k hk => by rw [hk]; exact h.hq))⟩, hf⟩
theorem TR.notint {w0 W : World} {p q a b : Nat} {L : List Int} (h : TR w0 W p q L a b) : ∀ k cs, k = q → k < W.heap.size → W.heap[k]? ≠ some (.cells cs 3 (0, 0)) := by
  obtain ⟨S, T, h1, h2, h3, h4⟩ := h.ex
  exact h2.notint
theorem rWords_len (L : List Int) (k : Nat) : ∀ (n a : Nat) (acc : List Int), (rWords L k n a acc).2.1.length ≤ acc.length + n
  | 0, a, acc => by rw [rWords]; exact Nat.le_refl _
  | n + 1, a, acc => by
    rw [rWords]
    split
    · dsimp only; omega
    · have := rWords_len L k n (rRice L a k).2.2 (acc ++ [(rRice L a k).1])
      rw [List.length_append] at this
      simp only [List.length_singleton] at this
      omega
theorem rParts_len (L : List Int) (N : Nat) (hN : N ≤ 8192) : ∀ (m a : Nat) (acc : List Int), (rParts L N m a acc).2.1.length ≤ acc.length + 8192 * m
  | 0, a, acc => by rw [rParts]; exact Nat.le_refl _
  | m + 1, a, acc => by
    have h1 := rWords_len L (rGet L a 4).1.toNat N (rGet L a 4).2.2 acc
    have h2 := rParts_len L N hN m (rWords L (rGet L a 4).1.toNat N (rGet L a 4).2.2 acc).2.2 (rWords L (rGet L a 4).1.toNat N (rGet L a 4).2.2 acc).2.1
    rw [rParts]
    repeat' split
    all_goals first | (dsimp only; omega) | omega
theorem rList_len {L : List Int} (h01 : is01 L) (a count : Nat) (hc : count ≤ 8192) : (rList L a count).2.1.length ≤ 65536 := by
  unfold rList
  split
  · simp
  · rename_i he
    obtain ⟨p, hp, e⟩ := rGet2 h01 (by simpa using he)
    rw [e, Int.toNat_natCast]
    split
    · have h1 := rParts_len L (count / 2 ^ p) (Nat.le_trans (Nat.div_le_self _ _) hc) (2 ^ p) (rGet L a 2).2.2 []
      have h2 := pow_le8 hp
      simp only [List.length_nil] at h1
      omega
    · simp
theorem fRead_len {L : List Int} (h01 : is01 L) (a : Nat) (count : Int) : (fRead L a count).1.length ≤ 65536 := by
  unfold fRead
  split
  · simp
  · split
    · simp
    · exact rList_len h01 a count.toNat (by omega)

set_option maxHeartbeats 8000000 in
set_option maxRecDepth 100000 in
theorem RiceReads_any (A : Option Addr) (c : Nat) (B : List Int) (n0 n1 k : Int) (w : World) (hC : Kd.C (Kd.int .u8) w A B.length B) (h8 : is8 B) (hB : B.length ≤ 9000000000000000000) (hc : B.length ≤ c) :
    Calls Try.prog 10 #[.slice A B.length c, .agg #[.int .i64 n0, .int .i64 n1], .int .i64 k] w fun e w' => e = .returned (.bool true) ∧ Below w.heap.size w w' := by
  obtain ⟨w1, hw1⟩ : ∃ w1, w1 = w.alloc (nnBox n0 n1) := ⟨_, rfl⟩
  obtain ⟨g, hg⟩ : ∃ g, g = w.heap.size := ⟨_, rfl⟩
  have hb1 : Below w.heap.size w w1 := by rw [hw1]; exact below_alloc (Below.refl _ _) _
  have hk1 : w1.heap[g]? = some (nnBox n0 n1) := by rw [hw1, hg]; exact World.alloc_heap_new w _
  have HC := Aside0.mk hC
  have H8 := Aside0.mk h8
  have HB1 := Aside0.mk hb1
  have HK1 := Aside0.mk hk1
  have HG := Aside0.mk hg
  have HE : Aside0 (w.alloc (.cells #[.int .i64 n0, .int .i64 n1] 28) = w1) := ⟨hw1.symm⟩
  clear hC h8 hw1 hg hb1 hk1
  by_cases hbig : 3000 < B.length
  · have d1 : decide ((3000 : Int) < (B.length : Int)) = true := by simp; omega
    clear hbig
    go_enter Try.func10, Try.ntmps10
    go_wp2_with fail
    rw [HE.out]
    refine (awake_any w1).mono ?_
    rintro e w2 ⟨rfl, hb⟩
    have HB2 := Aside0.mk (HB1.out.trans (hb.mono HB1.out.size))
    clear hb
    go_wp2_with fail
    go_ret
    exact ⟨rfl, HB2.out⟩
  have d1 : decide ((3000 : Int) < (B.length : Int)) = false := by simp; omega
  have HOP := Aside0.mk (fun W h => Open_any A c B n0 W h H8.out (by omega) hc)
  have HRO := Aside0.mk (fun W h => RefOpen_any A c B n0 W h H8.out (by omega))
  unfold OpenPost at HOP
  unfold ROpenPost at HRO
  have c0 : (w.alloc (.cells #[.int .i64 n0, .int .i64 n1] 28)).cell? ⟨w.heap.size, 0, none⟩ = some (.int .i64 n0) := by rw [HE.out, ← HG.out, cell_of_row w1 g 0 _ _ (0, 0) HK1.out]; rfl
  by_cases he : openE B n0 = 0
  case neg =>
    have hne : (openE B n0 != 0) = true := by simpa using he
    simp only [he, if_neg, not_false_eq_true] at HOP HRO
    have q1 : (openE B n0 != openE B n0) = false := by simp
    have q2 : (openE B n0 == openE B n0) = true := by simp
    generalize openE B n0 = er at *
    clear he
    go_enter Try.func10, Try.ntmps10
    go_wp2_with fail
    rw [HE.out, ← HG.out]
    refine (HOP.out w1 (Kd.C_below HC.out HB1.out)).mono ?_
    rintro e w2 ⟨rfl, hw⟩
    obtain rfl := hw.symm
    have c1 : w1.cell? ⟨g, 0, none⟩ = some (.int .i64 n0) := by rw [cell_of_row w1 g 0 _ _ (0, 0) HK1.out]; rfl
    go_wp2_with fail
    refine (HRO.out w1 (Kd.C_below HC.out HB1.out)).mono ?_
    rintro e w2 ⟨rfl, hw⟩
    obtain rfl := hw.symm
    go_wp2_with fail
    refine (awake_any w1).mono ?_
    rintro e w2 ⟨rfl, hb⟩
    have HB2 := Aside0.mk (HB1.out.trans (hb.mono HB1.out.size))
    clear hb
    go_wp2_with fail
    go_ret
    exact ⟨rfl, HB2.out⟩
  simp only [he, if_pos] at HOP HRO
  go_enter Try.func10, Try.ntmps10
  go_wp2_with fail
  rw [HE.out, ← HG.out]
  refine (HOP.out w1 (Kd.C_below HC.out HB1.out)).mono ?_
  rintro e w2 ⟨p, S, rfl, hR, hp, hS, hb⟩
  have hk2 := blk_fr HK1.out (Fr.below hb (fun _ => False)) (fun h => h)
  have c1 : w2.cell? ⟨g, 0, none⟩ = some (.int .i64 n0) := by rw [cell_of_row w2 g 0 _ _ (0, 0) hk2]; rfl
  have HB2 := Aside0.mk (HB1.out.trans (hb.mono HB1.out.size))
  have HR2 := Aside0.mk hR
  have HS2 : Aside0 (∀ k, S k → w.heap.size ≤ k) := ⟨fun k h => Nat.le_trans HB1.out.size (hS k h)⟩
  have HP2 : Aside0 (w.heap.size ≤ p) := ⟨Nat.le_trans HB1.out.size hp⟩
  have HGP : Aside0 (g < p) := ⟨Nat.lt_of_lt_of_le (lt_of_block HK1.out) hp⟩
  have HK2 := Aside0.mk hk2
  clear hR hp hS hb hk2 c0
  go_wp2_with fail
  clear c1
  refine (HRO.out w2 (Kd.C_below HC.out HB2.out)).mono ?_
  rintro e w3 ⟨q, T, rfl, hR, hq, hT, hb⟩
  have hk3 := blk_fr HK2.out (Fr.below hb (fun _ => False)) (fun h => h)
  obtain ⟨L, hL⟩ : ∃ L, L = ofB B n0.toNat := ⟨_, rfl⟩
  have HTR : Aside0 (TR w w3 p q L 0 0) := ⟨by
    rw [hL]
    have hpl := HR2.out.p_lt
    exact ⟨⟨S, T, HR2.out.below hb, hR, fun o => by have := HR2.out.lt q o; omega, fun o => by have := hT p o; omega⟩, by omega, HP2.out, Nat.le_trans HB2.out.size hq, HB2.out.trans (hb.mono HB2.out.size)⟩⟩
  have HGQ : Aside0 (g < q) := ⟨by have := lt_of_block HK2.out; omega⟩
  have HK3 := Aside0.mk hk3
  have k1 : w3.cell? ⟨g, 1, none⟩ = some (.int .i64 n1) := by rw [cell_of_row w3 g 1 _ _ (0, 0) hk3]; rfl
  have HSL := Aside0.mk (fun W (h : TR w W p q L 0 0) => h.callL (fun S hS => Seek_any S p 0 L n1 W hS))
  have HSR := Aside0.mk (fun W a (h : TR w W p q L a 0) => h.callR (fun S hS => RefSeek_any S q 0 L n1 W hS))
  generalize rSeek L 0 n1 = sk at *
  obtain ⟨es, a0⟩ := sk
  dsimp only at HSL HSR
  have q3 : (es != es) = false := by simp
  clear hR hq hT hb hL hk3 HR2 HS2 HP2 HOP HRO HK2
  go_wp2_with fail
  go_region_held3 (fun w' => w'.cell? ⟨g, 1, none⟩ = some (.int .i64 n1))
    (first | assumption | go_keep)
    (first
      | (go_at_call 19; refine (HSL.out _ (HTR.out.below (below_drew (Below.refl _ _)))).mono ?_; rintro e w4 ⟨rfl, h4, hf⟩; have HT4 := Aside0.mk h4; have hk4 := blk_fr (show w3.drew.heap[g]? = _ from HK3.out) hf (by have := HGP.out; omega); have HK4 := Aside0.mk hk4; have k4 : w4.cell? ⟨g, 1, none⟩ = some (.int .i64 n1) := (by rw [cell_of_row w4 g 1 _ _ (0, 0) hk4]; rfl); clear h4 hf hk4)
      | (go_at_call 20; refine (HSR.out _ _ HT4.out).mono ?_; rintro e w5 ⟨rfl, h5, hf⟩; have HT5 := Aside0.mk h5; have hk5 := blk_fr HK4.out hf (by have := HGQ.out; omega); have k5 : w5.cell? ⟨g, 1, none⟩ = some (.int .i64 n1) := (by rw [cell_of_row w5 g 1 _ _ (0, 0) hk5]; rfl); clear h5 hf hk5))
  all_goals
    have h01 := HT5.out.bits
    have hlen := fRead_len h01 a0 k
    have HLEN : Aside0 ((fRead L a0 k).1.length ≤ 1000000000) := ⟨by omega⟩
    have HRL := Aside0.mk (fun W (h : TR w W p q L a0 a0) => h.callL' (X := fun e w' => ∃ v, e = .returned (.tuple #[v, .int .i64 (fRead L a0 k).2.1]) ∧ RowV w' W.heap.size 3 1 v (fRead L a0 k).1.length (flatI (fRead L a0 k).1)) (fun S hS => (Read_any5 S p a0 k L W hS).mono (fun e w' ⟨v, h1, h2, h3, h4⟩ => ⟨⟨v, h1, h2⟩, h3, h4⟩)))
    have HRR := Aside0.mk (fun W b (h : TR w W p q L b a0) => h.callR' (X := fun e w' => ∃ v, e = .returned (.tuple #[v, .int .i64 (fRead L a0 k).2.1]) ∧ RowV w' W.heap.size 3 1 v (fRead L a0 k).1.length (flatI (fRead L a0 k).1)) (fun S hS => (RRead_any5 S q a0 k L W hS).mono (fun e w' ⟨v, h1, h2, h3, h4⟩ => ⟨⟨v, h1, h2⟩, h3, h4⟩)))
    generalize fRead L a0 k = r at *
    obtain ⟨xs, er, a'⟩ := r
    dsimp only at HRL HRR HLEN
    have m1 : (er == er) = true := by simp
    have m2 : ((a' : Int) == (a' : Int)) = true := by simp
    clear h01 hlen
    go_wp2_with fail
    refine (HRL.out _ HT5.out).mono ?_
    rintro e w6 ⟨⟨v6, rfl, hv6⟩, h6, _⟩
    have HT6 := Aside0.mk h6
    have HV6 := Aside0.mk hv6
    clear h6 hv6
    go_wp2_with fail
    refine (HRR.out w6 _ HT6.out).mono ?_
    rintro e w7 ⟨⟨v7, rfl, hv7⟩, h7, hf7⟩
    have HT7 := Aside0.mk h7
    have hv67 := HV6.out.fr hf7 HT6.out.notint
    have HV67 := Aside0.mk hv67
    have HV7 := Aside0.mk hv7
    clear h7 hv7 hf7 hv67
    go_wp2_with fail
    refine (ReadNil_any k w7).mono ?_
    rintro e w8 ⟨v8, rfl, hb⟩
    obtain ⟨A6, c6, rfl, hc6, hC6⟩ := RowV.reads (HV67.out.below hb) (by have := HLEN.out; omega)
    obtain ⟨A7, c7, rfl, hc7, hC7⟩ := RowV.reads (HV7.out.below hb) (by have := HLEN.out; omega)
    have HT8 := Aside0.mk (HT7.out.below hb)
    have HC6 := Aside0.mk hC6
    have HC7 := Aside0.mk hC7
    clear hb hC6 hC7 hc6 hc7
    go_wp2_with fail
    have cc := Ints_any A6 A7 xs.length xs.length c6 c7 xs xs w8 HC6.out HC7.out HLEN.out HLEN.out
    rw [decide_eq_true rfl] at cc
    refine cc.mono ?_
    clear cc
    rintro e w9 ⟨rfl, hd⟩
    have HT9 := Aside0.mk (HT8.out.below hd.below)
    clear hd
    go_wp2_with fail
    refine HT9.out.atL.mono ?_
    rintro e w10 ⟨rfl, hw⟩
    obtain rfl := hw.symm
    go_wp2_with fail
    refine HT9.out.atR.mono ?_
    rintro e w10 ⟨rfl, hw⟩
    obtain rfl := hw.symm
    go_wp2_with fail
    refine (awake_any w9).mono ?_
    rintro e w21 ⟨rfl, hb⟩
    have HB21 := Aside0.mk (HT9.out.low.trans (hb.mono HT9.out.low.size))
    clear hb
    go_wp2_with fail
    go_ret
    exact ⟨rfl, HB21.out⟩
end Go.Proofs.Ytnpheeendbchbaa.P
