/- Two writers beside each other; the walk of shawmlaw05.RicePuts. -/
import Derived.Test.YtnpheeendbchbaaHj
namespace Go.Proofs.Ytnpheeendbchbaa.P
open Go.RowKit Go.Shelf Go.Proofs.Ytnpheeendbchbaa.Bits Go.Proofs.YtnpheeendbchbaaW.PrintWords Go.Proofs.YtnpheeendbchbaaW.PrintLast Go.Proofs.YtnpheeendbchbaaW.PrintMore
set_option linter.unusedVariables false
set_option linter.unusedSimpArgs false
attribute [local go_sem ↓] Go.wp_at_zero Go.wp_at_succ

/-- A writer at p has L, a writer of the reference at q has M; both are younger than w0, and share no memory. -/
structure TW (w0 W : World) (p q : Nat) (L M : List Int) : Prop where
  ex : ∃ S T : Nat → Prop, Wr W S p L ∧ RWr W T q M ∧ (∀ k, S k → ¬ T k) ∧ ¬ S q ∧ ¬ T p ∧ (∀ k, S k → w0.heap.size ≤ k) ∧ (∀ k, T k → w0.heap.size ≤ k)
  ne : p ≠ q
  hp : w0.heap.size ≤ p
  hq : w0.heap.size ≤ q
  low : Below w0.heap.size w0 W
theorem TW.below {w0 W W' : World} {p q : Nat} {L M : List Int} (h : TW w0 W p q L M) (hb : Below W.heap.size W W') : TW w0 W' p q L M := by
  obtain ⟨S, T, h1, h2, h3, h4, h5, h6, h7⟩ := h.ex
  exact ⟨⟨S, T, h1.below hb, h2.below hb, h3, h4, h5, h6, h7⟩, h.ne, h.hp, h.hq, h.low.trans (hb.mono h.low.size)⟩
theorem TW.callL {w0 W : World} {p q : Nat} {L M L' : List Int} {f : Nat} {args : Array Value} {E : Ending} (h : TW w0 W p q L M) (hc : ∀ S, Wr W S p L → (∀ k, S k → w0.heap.size ≤ k) → Calls Try.prog f args W fun e w' => e = E ∧ WrTo W S p L' w') :
    Calls Try.prog f args W fun e w' => e = E ∧ TW w0 w' p q L' M := by
  obtain ⟨S, T, h1, h2, h3, h4, h5, h6, h7⟩ := h.ex
  refine (hc S h1 h6).mono ?_
  rintro e w' ⟨he, S', k1, k2, kf⟩
  have hpl := h1.p_lt
  have hql := h2.p_lt
  refine ⟨he, ⟨S', T, k1, h2.fr kf (fun o => ?_) (fun k hk o => ?_), fun k hk ht => ?_, fun hk => ?_, h5, fun k hk => ?_, h7⟩, h.ne, h.hp, h.hq, h.low.trans (kf.to_below h.low.size (fun k hk => ?_))⟩
  · rcases o with o | o
    · exact h.ne o.symm
    · exact h4 o
  · rcases o with o | o
    · rw [o] at hk; exact h5 hk
    · exact h3 k o hk
  · rcases k2 k hk with o | o
    · exact h3 k o ht
    · have := h2.lt k ht; omega
  · rcases k2 q hk with o | o
    · exact h4 o
    · omega
  · rcases k2 k hk with o | o
    · exact h6 k o
    · exact Nat.le_trans h.low.size o
  · rcases hk with o | o
    · rw [o]; exact h.hp
    · exact h6 k o
theorem TW.callR {w0 W : World} {p q : Nat} {L M M' : List Int} {f : Nat} {args : Array Value} {E : Ending} (h : TW w0 W p q L M) (hc : ∀ S, RWr W S q M → (∀ k, S k → w0.heap.size ≤ k) → Calls Try.prog f args W fun e w' => e = E ∧ RWrTo W S q M' w') :
    Calls Try.prog f args W fun e w' => e = E ∧ TW w0 w' p q L M' := by
  obtain ⟨S, T, h1, h2, h3, h4, h5, h6, h7⟩ := h.ex
  refine (hc T h2 h7).mono ?_
  rintro e w' ⟨he, T', k1, k2, kf⟩
  have hpl := h1.p_lt
  have hql := h2.p_lt
  refine ⟨he, ⟨S, T', h1.fr kf (fun o => ?_) (fun k hk o => ?_), k1, fun k hk ht => ?_, h4, fun hk => ?_, h6, fun k hk => ?_⟩, h.ne, h.hp, h.hq, h.low.trans (kf.to_below h.low.size (fun k hk => ?_))⟩
  · rcases o with o | o
    · exact h.ne o
    · exact h5 o
  · rcases o with o | o
    · rw [o] at hk; exact h4 hk
    · exact h3 k hk o
  · rcases k2 k ht with o | o
    · exact h3 k hk o
    · have := h1.lt k hk; omega
  · rcases k2 p hk with o | o
    · exact h5 o
    · omega
  · rcases k2 k hk with o | o
    · exact h7 k o
    · exact Nat.le_trans h.low.size o
  · rcases hk with o | o
    · rw [o]; exact h.hq
    · exact h7 k o
theorem TW.lenL {w0 W : World} {p q : Nat} {L M : List Int} (h : TW w0 W p q L M) : Calls Try.prog 37 #[.pointer (some ⟨p, 0, none⟩)] W fun e w' => e = .returned (.int .i64 (L.length : Int)) ∧ w' = W := by
  obtain ⟨S, T, h1, _⟩ := h.ex
  exact Len_any S p L W h1
theorem TW.lenR {w0 W : World} {p q : Nat} {L M : List Int} (h : TW w0 W p q L M) : Calls Try.prog 38 #[.pointer (some ⟨q, 0, none⟩)] W fun e w' => e = .returned (.int .i64 (M.length : Int)) ∧ w' = W := by
  obtain ⟨S, T, _, h2, _⟩ := h.ex
  exact RLen_any T q M W h2
theorem TW.bytesL {w0 W : World} {p q : Nat} {L M : List Int} (h : TW w0 W p q L M) (hL : L.length ≤ 1048576) : Calls Try.prog 40 #[.pointer (some ⟨p, 0, none⟩)] W fun e w' => ∃ A c, e = .returned (.slice A (pk L).length c) ∧ (pk L).length ≤ c ∧ Kd.C (Kd.int .u8) w' A (pk L).length (pk L) ∧ Below W.heap.size W w' := by
  obtain ⟨S, T, h1, _⟩ := h.ex
  refine (Bytes_any S p L W h1 hL).mono ?_
  rintro e w' ⟨v, S', rfl, hr, _, hb⟩
  obtain ⟨A, c, hv, hc, hC⟩ := Kd.R_reads hr
  exact ⟨A, c, by rw [hv], hc, hC, hb⟩
theorem TW.bytesR {w0 W : World} {p q : Nat} {L M : List Int} (h : TW w0 W p q L M) (hM : M.length ≤ 1048576) : Calls Try.prog 41 #[.pointer (some ⟨q, 0, none⟩)] W fun e w' => ∃ A c, e = .returned (.slice A (pk M).length c) ∧ (pk M).length ≤ c ∧ Kd.C (Kd.int .u8) w' A (pk M).length (pk M) ∧ Below W.heap.size W w' := by
  obtain ⟨S, T, _, h2, _⟩ := h.ex
  refine (RBytes_any T q M W h2 hM).mono ?_
  rintro e w' ⟨v, S', rfl, hr, _, hb⟩
  obtain ⟨A, c, hv, hc, hC⟩ := Kd.R_reads hr
  exact ⟨A, c, by rw [hv], hc, hC, hb⟩
abbrev zeroRWr : Obj := .cells #[.slice none 0 0] 51 (0, 0)
theorem TW.start (w : World) : TW w ((w.alloc newWr).alloc zeroRWr) w.heap.size (w.heap.size + 1) [] [] := by
  have h1 : Wr ((w.alloc newWr).alloc zeroRWr) (fun _ => False) w.heap.size [] := (Wr.new w).below (below_alloc (Below.refl _ _) _)
  have hb : Below w.heap.size w ((w.alloc newWr).alloc zeroRWr) := below_alloc (below_alloc (Below.refl _ _) _) _
  have hk : ((w.alloc newWr).alloc zeroRWr).heap[w.heap.size + 1]? = some zeroRWr := by
    have := World.alloc_heap_new (w.alloc newWr) zeroRWr
    simpa using this
  exact ⟨⟨fun _ => False, fun _ => False, h1, ⟨⟨_, hk, Kd.R_nil _ _ _ _ _⟩, (fun x hx => by cases hx), (fun k hk => hk.elim)⟩, fun k hk => hk.elim, fun h => h, fun h => h, fun k hk => hk.elim, fun k hk => hk.elim⟩, by omega, Nat.le_refl _, by omega, hb⟩
theorem fPut_le (L : List Int) (v k : Int) (h : L.length ≤ 1048576) : (fPut L v k).2.length ≤ 1048576 := by
  unfold fPut
  split
  · exact h
  · split
    · rename_i hs
      unfold wRice
      split
      · exact h
      · have := word_length ((small_iff v).1 hs) k.toNat
        rw [List.length_append]; omega
    · exact h
theorem wAppend_le (L B : List Int) (n : Int) (h : L.length ≤ 1048576) : (wAppend L B n).2.length ≤ 1048576 := by
  unfold wAppend
  split
  · exact h
  · unfold wput putL
    dsimp only
    split
    · exact h
    · rw [List.length_append]; omega
theorem pk_len_le {L : List Int} (h : L.length ≤ 1048576) : (pk L).length ≤ 1000000000 := by rw [pk_length]; omega

set_option maxHeartbeats 8000000 in
set_option maxRecDepth 100000 in
theorem RicePuts_any (A : Option Addr) (c : Nat) (l : List Int) (k : Int) (A2 : Option Addr) (c2 : Nat) (B : List Int) (w : World) (hC : Kd.C (Kd.int .i64) w A l.length l) (hc : l.length ≤ c) (hl : l.length ≤ 9000000000000000000)
    (hC2 : Kd.C (Kd.int .u8) w A2 B.length B) (h8 : is8 B) (hB : B.length ≤ 9000000000000000000) (hA : ∀ ad, A2 = some ad → 0 < B.length → ad.block < w.heap.size) :
    Calls Try.prog 7 #[.slice A l.length c, .int .i64 k, .slice A2 B.length c2] w fun e w' => e = .returned (.bool true) ∧ Below w.heap.size w w' := by
  have HC := Aside0.mk hC
  have HC2 := Aside0.mk hC2
  have H8 := Aside0.mk h8
  have HA := Aside0.mk hA
  clear hC hC2 h8 hA
  by_cases h1 : 100 < l.length
  · have d1 : decide ((100 : Int) < (l.length : Int)) = true := by simp; omega
    clear h1
    go_enter Try.func7, Try.ntmps7
    go_wp2_with fail
    refine (awake_any w).mono ?_
    rintro e w1 ⟨rfl, hb⟩
    go_wp2_with fail
    go_ret
    exact ⟨rfl, hb⟩
  have d1 : decide ((100 : Int) < (l.length : Int)) = false := by simp; omega
  by_cases h2 : 140000 < B.length
  · have d2 : decide ((140000 : Int) < (B.length : Int)) = true := by simp; omega
    clear h1 h2
    go_enter Try.func7, Try.ntmps7
    go_wp2_with fail
    refine (awake_any w).mono ?_
    rintro e w1 ⟨rfl, hb⟩
    go_wp2_with fail
    go_ret
    exact ⟨rfl, hb⟩
  have d2 : decide ((140000 : Int) < (B.length : Int)) = false := by simp; omega
  obtain ⟨w2, hw2⟩ : ∃ w2, w2 = (w.alloc newWr).alloc zeroRWr := ⟨_, rfl⟩
  obtain ⟨p, hp⟩ : ∃ p, p = w.heap.size := ⟨_, rfl⟩
  have hT := TW.start w
  rw [← hw2, ← hp] at hT
  have HT := Aside0.mk hT
  have HP := Aside0.mk hp
  have HE : Aside0 ((w.alloc (.cells #[.slice none 0 0, .int .i64 0] 80)).alloc (.cells #[.slice none 0 0] 51) = w2) := ⟨hw2.symm⟩
  have HLE : Aside0 ((wAppend [] B (8 * (B.length : Int))).2.length ≤ 1048576) := ⟨wAppend_le _ _ _ (by simp)⟩
  have HPA := Aside0.mk (fun W (h : TW w W p (p + 1) [] []) (hb : Below w.heap.size w W) => h.callL (fun S hS hlo => Append_any S p [] A2 c2 B (8 * (B.length : Int)) W hS (by simp) (Kd.C_below HC2.out hb) H8.out (by omega) (fun ad e hn o => by
    have := HA.out ad e hn
    have := HP.out
    rcases o with o | o
    · omega
    · have := hlo _ o; omega)))
  have HRA := Aside0.mk (fun W L (h : TW w W p (p + 1) L []) (hb : Below w.heap.size w W) => h.callR (fun S hS hlo => RAppend_any S (p + 1) [] A2 c2 B (8 * (B.length : Int)) W hS (by simp) (Kd.C_below HC2.out hb) H8.out (by omega)))
  generalize wAppend [] B (8 * (B.length : Int)) = ap at *
  obtain ⟨ea, L0⟩ := ap
  dsimp only at HPA HRA HLE
  have q1 : (ea != ea) = false := by simp
  have s1 : wrap64 (8 * (B.length : Int)) = 8 * (B.length : Int) := wrap64_id (by omega) (by omega)
  have hl2 : l.length ≤ 100 := by omega
  clear hT hw2 hp h1 h2
  go_enter Try.func7, Try.ntmps7
  go_wp2_with fail
  refine (New_any w).mono ?_
  rintro e w1 ⟨rfl, hw1⟩
  subst hw1
  go_wp2_with fail
  rw [HE.out, ← HP.out]
  refine (HPA.out w2 HT.out HT.out.low).mono ?_
  rintro e w3 ⟨rfl, h3⟩
  have HT3 := Aside0.mk h3
  clear h3
  go_wp2_with fail
  refine (HRA.out w3 L0 HT3.out HT3.out.low).mono ?_
  rintro e w4 ⟨rfl, h4⟩
  have HT4 := Aside0.mk h4
  clear h4 s1 HPA HRA HT HT3
  go_wp2_with fail
  go_loopw [38] (fun i wr => ∃ (j : Nat) (L : List Int), i = .int .i64 (j : Int) ∧ j ≤ l.length ∧ Aside0 (L.length ≤ 1048576) ∧ Aside0 (TW w wr p (p + 1) L L)) (fun i _ => l.length - (intOf i).toNat)
  case atStart => exact ⟨0, L0, rfl, Nat.zero_le _, HLE, HT4⟩
  case round =>
    obtain ⟨j, L, rfl, hj, HLL, HTT⟩ := hrel
    by_cases hlt : j < l.length
    · obtain ⟨ad, e, hx⟩ := at64 (Kd.C_below HC.out HTT.out.low) j hlt
      subst e
      generalize l.getD j 0 = x at *
      have HPL := Aside0.mk (fun W (h : TW w W p (p + 1) L L) => h.callL (fun S hS _ => Put_any5 S p L x k W hS HLL.out))
      have HPR := Aside0.mk (fun W L' (h : TW w W p (p + 1) L' L) => h.callR (fun S hS _ => RPut_any5 S (p + 1) L x k W hS HLL.out))
      have HL1 := Aside0.mk (fPut_le L x k HLL.out)
      generalize fPut L x k = fp at *
      obtain ⟨er, L1⟩ := fp
      dsimp only at HPL HPR HL1
      have q2 : (er != er) = false := by simp
      have q3 : ((L1.length : Int) != (L1.length : Int)) = false := by simp
      go_wp2_with fail
      refine (HPL.out wr HTT.out).mono ?_
      rintro e w5 ⟨rfl, h5⟩
      have HT5 := Aside0.mk h5
      clear h5 hx
      go_wp2_with fail
      refine (HPR.out w5 L1 HT5.out).mono ?_
      rintro e w6 ⟨rfl, h6⟩
      have HT6 := Aside0.mk h6
      clear h6
      go_wp2_with fail
      refine HT6.out.lenL.mono ?_
      rintro e w7 ⟨rfl, hw⟩
      obtain rfl := hw.symm
      go_wp2_with fail
      refine HT6.out.lenR.mono ?_
      rintro e w7 ⟨rfl, hw⟩
      obtain rfl := hw.symm
      go_wp2_with fail
      go_roundw
      case rel => exact ⟨j + 1, L1, by go_num, by omega, HL1, HT6⟩
      case measure => simp [intOf]; omega
    · obtain rfl : j = l.length := by omega
      go_wp2_with fail
      refine (HTT.out.bytesL HLL.out).mono ?_
      rintro e w5 ⟨A5, c5, rfl, hc5, hC5, hb⟩
      have HT5 := Aside0.mk (HTT.out.below hb)
      have HC5 := Aside0.mk hC5
      clear hb hC5 hc5
      go_wp2_with fail
      refine (HT5.out.bytesR HLL.out).mono ?_
      rintro e w6 ⟨A6, c6, rfl, hc6, hC6, hb⟩
      have HT6 := Aside0.mk (HT5.out.below hb)
      have HC56 := Aside0.mk (Kd.C_below HC5.out hb)
      have HC6 := Aside0.mk hC6
      clear hb hC6 hc6
      go_wp2_with fail
      have cc := Same_any A5 A6 (pk L).length (pk L).length c5 c6 (pk L) (pk L) w6 HC56.out HC6.out (pk_len_le HLL.out) (pk_len_le HLL.out)
      rw [decide_eq_true rfl] at cc
      refine cc.mono ?_
      clear cc
      rintro e w7 ⟨rfl, hd⟩
      have HT7 := Aside0.mk (HT6.out.below hd.below)
      clear hd
      go_wp2_with fail
      refine (PutNil_any 0 0 w7).mono ?_
      rintro e w8 ⟨rfl, hw⟩
      obtain rfl := hw.symm
      go_wp2_with fail
      refine (awake_any w7).mono ?_
      rintro e w8 ⟨rfl, hb⟩
      have HB8 := Aside0.mk (HT7.out.low.trans (hb.mono HT7.out.low.size))
      clear hb
      go_wp2_with fail
      go_ret
      exact ⟨rfl, HB8.out⟩
end Go.Proofs.Ytnpheeendbchbaa.P
