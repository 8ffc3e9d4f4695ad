/- Calls as the law hands them: few, write, told. -/
import Derived.Test.YtmjekkkpbcehoaaBu
import Derived.Test.YtmjekkkpbcehoaaBl
namespace Go.Proofs.Ytmjekkkpbcehoaa.P
open Go.RowKit Go.Shelf Go.Proofs.Ytmjekkkpbcehoaa.Bits Go.Proofs.YtmjekkkpbcehoaaW.PrintWords Go.Proofs.YtmjekkkpbcehoaaW.PrintLast Go.Proofs.YtmjekkkpbcehoaaW.PrintMore
set_option linter.unusedVariables false
set_option linter.unusedSimpArgs false
attribute [local go_sem ↓] Go.wp_at_zero Go.wp_at_succ

/-- A call: its kind, its two numbers, its bytes and where these lie. -/
structure OpD where
  kind : Nat
  v : Int
  n : Int
  A : Option Addr
  c : Nat
  B : List Int
/-- The value of a call. -/
def OpD.val (o : OpD) : Value := .agg #[.int .u8 (o.kind : Int), .int .i64 o.v, .int .i64 o.n, .slice o.A o.B.length o.c]
/-- A call that is in memory: what it says is so. -/
structure OpD.ok (w : World) (o : OpD) : Prop where
  kind : o.kind < 256
  v : -9223372036854775808 ≤ o.v ∧ o.v ≤ 9223372036854775807
  n : -9223372036854775808 ≤ o.n ∧ o.n ≤ 9223372036854775807
  bytes : Kd.C (Kd.int .u8) w o.A o.B.length o.B
  is8 : Bits.is8 o.B
  cap : o.B.length ≤ o.c
  short : o.B.length ≤ 4611686018427387904
  blk : ∀ ad, o.A = some ad → 0 < o.B.length → ad.block < w.heap.size
/-- Calls in memory, one after the other. -/
structure OpsAt (w : World) (X : Option Addr) (ops : List OpD) : Prop where
  cells : ∀ i (h : i < ops.length), ∃ x, X = some x ∧ w.cell? (x.add (i * 4)) = some (.int .u8 (ops[i].kind : Int)) ∧ w.cell? ⟨(x.add (i * 4)).block, (x.add (i * 4)).off + 1, none⟩ = some (.int .i64 ops[i].v) ∧ w.cell? ⟨(x.add (i * 4)).block, (x.add (i * 4)).off + 2, none⟩ = some (.int .i64 ops[i].n) ∧ w.cell? ⟨(x.add (i * 4)).block, (x.add (i * 4)).off + 3, none⟩ = some (.slice ops[i].A ops[i].B.length ops[i].c)
  ok : ∀ o ∈ ops, o.ok w
theorem OpD.ok.below {w w' : World} {o : OpD} (h : o.ok w) (hb : Below w.heap.size w w') : o.ok w' :=
  ⟨h.kind, h.v, h.n, Kd.C_below h.bytes hb, h.is8, h.cap, h.short, fun ad e hn => Nat.lt_of_lt_of_le (h.blk ad e hn) hb.size⟩
theorem OpsAt.below {w w' : World} {X : Option Addr} {ops : List OpD} (h : OpsAt w X ops) (hb : Below w.heap.size w w') : OpsAt w' X ops :=
  ⟨fun i hi => by
    obtain ⟨x, e, h0, h1, h2, h3⟩ := h.cells i hi
    exact ⟨x, e, pw_cell_below hb h0, pw_cell_below hb h1, pw_cell_below hb h2, pw_cell_below hb h3⟩, fun o ho => (h.ok o ho).below hb⟩

def bulk (ops : List OpD) : Nat := (ops.map fun o => o.B.length).sum
def fewB (ops : List OpD) : Bool := decide (bulk ops ≤ 140000) && decide (ops.length ≤ 60)
theorem bulk_take (ops : List OpD) (i : Nat) (h : i < ops.length) : bulk (ops.take (i + 1)) = bulk (ops.take i) + ops[i].B.length := by
  unfold bulk
  rw [List.take_succ_eq_append_getElem h, List.map_append, List.sum_append]
  simp
theorem bulk_take_le (ops : List OpD) (i : Nat) : bulk (ops.take i) ≤ bulk ops := by
  unfold bulk
  have := List.sum_append (l₁ := (ops.take i).map fun o => o.B.length) (l₂ := (ops.drop i).map fun o => o.B.length)
  rw [← List.map_append, List.take_append_drop] at this
  omega
theorem bulk_mem (ops : List OpD) (o : OpD) (h : o ∈ ops) : o.B.length ≤ bulk ops := by
  unfold bulk
  induction ops with
  | nil => cases h
  | cons a l ih =>
    rw [List.map_cons, List.sum_cons]
    rcases List.mem_cons.1 h with rfl | h
    · omega
    · have := ih h; omega

set_option maxHeartbeats 1000000 in
set_option maxRecDepth 100000 in
theorem few_any (X : Option Addr) (c : Nat) (ops : List OpD) (w : World) (h : OpsAt w X ops) (hl : ops.length ≤ 9000000000000000000) :
    Calls Try.prog 18 #[.slice X ops.length c] w fun e w' => e = .returned (.bool (fewB ops)) ∧ Below w.heap.size w w' := by
  have HO := Aside0.mk h
  clear h
  go_enter Try.func18, Try.ntmps18
  go_wp2_with fail
  go_loopw [3, 8] (fun u i wr => ∃ k s : Nat, i = .int .i64 (k : Int) ∧ u = .int .i64 (s : Int) ∧ k ≤ ops.length ∧ s ≤ 140000 ∧ Aside0 (s = bulk (ops.take k)) ∧ Aside0 (Below w.heap.size w wr)) (fun _ i _ => ops.length - (intOf i).toNat)
  case atStart => exact ⟨0, 0, rfl, rfl, Nat.zero_le _, by omega, ⟨rfl⟩, ⟨Below.refl _ _⟩⟩
  case round =>
    obtain ⟨k, s, rfl, rfl, hk, hs, HS, HB⟩ := hrel
    by_cases hlt : k < ops.length
    · obtain ⟨x, e, h0, h1, h2, h3⟩ := (HO.out.below HB.out).cells k hlt
      subst e
      have hbt := bulk_take ops k hlt
      have hmx := ((HO.out.below HB.out).ok ops[k] (List.getElem_mem hlt)).short
      rw [← HS.out] at hbt
      have HLE := Aside0.mk (bulk_take_le ops (k + 1))
      have HBT := Aside0.mk hbt
      generalize hOK : ops[k] = o at *
      obtain ⟨kind, v, n, A, co, B⟩ := o
      dsimp only at *
      obtain ⟨m, hm⟩ : ∃ m, m = B.length := ⟨_, rfl⟩
      rw [← hm] at h3 hmx HBT
      clear hbt hOK hm
      by_cases hov : 140000 < s + m
      · have HN : Aside0 (fewB ops = false) := ⟨by
          unfold fewB
          rw [decide_eq_false (by have := HBT.out; have := HLE.out; omega), Bool.false_and]⟩
        have d1 : decide ((140000 : Int) < (s : Int) + (m : Int)) = true := by simp; omega
        clear hov HBT HLE
        go_wp2_with fail
        go_ret
        rw [HN.out]
        exact ⟨rfl, by (repeat (first | with_reducible exact Below.refl _ _ | (refine Aside0.out (p := Below _ _ _) ?_; assumption) | refine below_drew ?_ | refine below_alloc ?_ _ | (refine below_step ?_ (Aside0.out (p := Below _ _ _) (by assumption)))))⟩
      · have d1 : decide ((140000 : Int) < (s : Int) + (m : Int)) = false := by simp; omega
        have hov2 : s + m ≤ 140000 := by omega
        clear hov
        go_wp2_with fail
        go_roundw
        case rel => exact ⟨k + 1, s + m, by go_num, by go_num, by omega, hov2, ⟨HBT.out.symm⟩, ⟨by (repeat (first | with_reducible exact Below.refl _ _ | (refine Aside0.out (p := Below _ _ _) ?_; assumption) | refine below_drew ?_ | refine below_alloc ?_ _ | (refine below_step ?_ (Aside0.out (p := Below _ _ _) (by assumption)))))⟩⟩
        case measure => simp [intOf]; omega
    · obtain rfl : k = ops.length := by omega
      have HN : Aside0 (fewB ops = decide ((ops.length : Int) ≤ 60)) := ⟨by
        have h1 := HS.out
        rw [List.take_length] at h1
        unfold fewB
        rw [decide_eq_true (by omega), Bool.true_and]
        congr 1
        apply propext
        omega⟩
      go_wp2_with fail
      go_ret
      rw [HN.out]
      exact ⟨rfl, HB.out⟩

def wOp (L : List Int) (o : OpD) : Int × List Int := match o.kind % 6 with
  | 0 => wPut L o.v o.n
  | 1 => wSigned L o.v o.n
  | 2 => wUnary L o.v
  | 3 => wGamma L o.v
  | 4 => wAlign L o.v
  | _ => wAppend L o.B o.n
theorem wput_len (L M : List Int) (h : L.length ≤ 1048576) : (wput L M).2.length ≤ 1048576 := by
  unfold wput putL
  dsimp only
  split
  · exact h
  · rw [List.length_append]; omega
theorem wOp_len (L : List Int) (o : OpD) (h : L.length ≤ 1048576) : (wOp L o).2.length ≤ 1048576 := by
  unfold wOp
  split
  · unfold wPut; split; exact h; exact wput_len _ _ h
  · unfold wSigned; split; exact h; exact wput_len _ _ h
  · unfold wUnary; split; exact h; exact wput_len _ _ h
  · unfold wGamma; split; exact h; exact wput_len _ _ h
  · unfold wAlign; split; exact h
    dsimp only
    rw [List.length_append, List.length_replicate]
    unfold padN
    omega
  · unfold wAppend; split; exact h; exact wput_len _ _ h

set_option maxHeartbeats 2000000 in
set_option maxRecDepth 100000 in
theorem write_any (S : Nat → Prop) (p : Nat) (L : List Int) (o : OpD) (w : World) (hW : Wr w S p L) (hL : L.length ≤ 1048576) (ho : o.ok w) (hB : o.B.length ≤ 140000) (hA : ∀ ad, o.A = some ad → 0 < o.B.length → ¬ (ad.block = p ∨ S ad.block)) :
    Calls Try.prog 20 #[.pointer (some ⟨p, 0, none⟩), o.val] w fun e w' => e = .returned (.int .i64 (wOp L o).1) ∧ WrTo w S p (wOp L o).2 w' := by
  obtain ⟨kind, v, n, A, co, B⟩ := o
  obtain ⟨hk, hv, hn, hC, h8, hcap, _, hblk⟩ := ho
  dsimp only [OpD.val] at *
  have HW := Aside0.mk hW
  have HC := Aside0.mk hC
  have H8 := Aside0.mk h8
  have HA := Aside0.mk hA
  have hk6 : kind % 6 = 0 ∨ kind % 6 = 1 ∨ kind % 6 = 2 ∨ kind % 6 = 3 ∨ kind % 6 = 4 ∨ kind % 6 = 5 := by omega
  clear hW hC h8 hblk hA
  rcases hk6 with hq | hq | hq | hq | hq | hq
  · have HN : Aside0 (wOp L ⟨kind, v, n, A, co, B⟩ = wPut L v n) := ⟨by unfold wOp; dsimp only; rw [hq]; rfl⟩
    have hq' : (kind : Int) % 6 = 0 := by omega
    clear hq
    go_enter Try.func20, Try.ntmps20
    go_wp2_with (go_at_call 45; refine (Put_any S p L v n _ (HW.out.below (by (repeat (first | with_reducible exact Below.refl _ _ | (refine Aside0.out (p := Below _ _ _) ?_; assumption) | refine below_drew ?_ | refine below_alloc ?_ _ | (refine below_step ?_ (Aside0.out (p := Below _ _ _) (by assumption))))))) hL).mono ?_; rintro e w2 ⟨rfl, h2⟩; have H2 := Aside0.mk h2; clear h2)
    go_ret
    rw [HN.out]
    exact ⟨rfl, WrTo.glue (fun k hk => .inl hk) (Fr.below (by (repeat (first | with_reducible exact Below.refl _ _ | (refine Aside0.out (p := Below _ _ _) ?_; assumption) | refine below_drew ?_ | refine below_alloc ?_ _ | (refine below_step ?_ (Aside0.out (p := Below _ _ _) (by assumption)))))) _) H2.out⟩
  · have HN : Aside0 (wOp L ⟨kind, v, n, A, co, B⟩ = wSigned L v n) := ⟨by unfold wOp; dsimp only; rw [hq]; rfl⟩
    have hq' : (kind : Int) % 6 = 1 := by omega
    clear hq
    go_enter Try.func20, Try.ntmps20
    go_wp2_with (go_at_call 49; refine (Signed_any S p L v n _ (HW.out.below (by (repeat (first | with_reducible exact Below.refl _ _ | (refine Aside0.out (p := Below _ _ _) ?_; assumption) | refine below_drew ?_ | refine below_alloc ?_ _ | (refine below_step ?_ (Aside0.out (p := Below _ _ _) (by assumption))))))) hL).mono ?_; rintro e w2 ⟨rfl, h2⟩; have H2 := Aside0.mk h2; clear h2)
    go_ret
    rw [HN.out]
    exact ⟨rfl, WrTo.glue (fun k hk => .inl hk) (Fr.below (by (repeat (first | with_reducible exact Below.refl _ _ | (refine Aside0.out (p := Below _ _ _) ?_; assumption) | refine below_drew ?_ | refine below_alloc ?_ _ | (refine below_step ?_ (Aside0.out (p := Below _ _ _) (by assumption)))))) _) H2.out⟩
  · have HN : Aside0 (wOp L ⟨kind, v, n, A, co, B⟩ = wUnary L v) := ⟨by unfold wOp; dsimp only; rw [hq]; rfl⟩
    have hq' : (kind : Int) % 6 = 2 := by omega
    clear hq
    go_enter Try.func20, Try.ntmps20
    go_wp2_with (go_at_call 46; refine (Unary_any S p L v _ (HW.out.below (by (repeat (first | with_reducible exact Below.refl _ _ | (refine Aside0.out (p := Below _ _ _) ?_; assumption) | refine below_drew ?_ | refine below_alloc ?_ _ | (refine below_step ?_ (Aside0.out (p := Below _ _ _) (by assumption))))))) hL).mono ?_; rintro e w2 ⟨rfl, h2⟩; have H2 := Aside0.mk h2; clear h2)
    go_ret
    rw [HN.out]
    exact ⟨rfl, WrTo.glue (fun k hk => .inl hk) (Fr.below (by (repeat (first | with_reducible exact Below.refl _ _ | (refine Aside0.out (p := Below _ _ _) ?_; assumption) | refine below_drew ?_ | refine below_alloc ?_ _ | (refine below_step ?_ (Aside0.out (p := Below _ _ _) (by assumption)))))) _) H2.out⟩
  · have HN : Aside0 (wOp L ⟨kind, v, n, A, co, B⟩ = wGamma L v) := ⟨by unfold wOp; dsimp only; rw [hq]; rfl⟩
    have hq' : (kind : Int) % 6 = 3 := by omega
    clear hq
    go_enter Try.func20, Try.ntmps20
    go_wp2_with (go_at_call 48; refine (Gamma_any S p L v _ (HW.out.below (by (repeat (first | with_reducible exact Below.refl _ _ | (refine Aside0.out (p := Below _ _ _) ?_; assumption) | refine below_drew ?_ | refine below_alloc ?_ _ | (refine below_step ?_ (Aside0.out (p := Below _ _ _) (by assumption))))))) hL).mono ?_; rintro e w2 ⟨rfl, h2⟩; have H2 := Aside0.mk h2; clear h2)
    go_ret
    rw [HN.out]
    exact ⟨rfl, WrTo.glue (fun k hk => .inl hk) (Fr.below (by (repeat (first | with_reducible exact Below.refl _ _ | (refine Aside0.out (p := Below _ _ _) ?_; assumption) | refine below_drew ?_ | refine below_alloc ?_ _ | (refine below_step ?_ (Aside0.out (p := Below _ _ _) (by assumption)))))) _) H2.out⟩
  · have HN : Aside0 (wOp L ⟨kind, v, n, A, co, B⟩ = wAlign L v) := ⟨by unfold wOp; dsimp only; rw [hq]; rfl⟩
    have hq' : (kind : Int) % 6 = 4 := by omega
    clear hq
    go_enter Try.func20, Try.ntmps20
    go_wp2_with (go_at_call 47; refine (Align_any S p L v _ (HW.out.below (by (repeat (first | with_reducible exact Below.refl _ _ | (refine Aside0.out (p := Below _ _ _) ?_; assumption) | refine below_drew ?_ | refine below_alloc ?_ _ | (refine below_step ?_ (Aside0.out (p := Below _ _ _) (by assumption))))))) hL).mono ?_; rintro e w2 ⟨rfl, h2⟩; have H2 := Aside0.mk h2; clear h2)
    go_ret
    rw [HN.out]
    exact ⟨rfl, WrTo.glue (fun k hk => .inl hk) (Fr.below (by (repeat (first | with_reducible exact Below.refl _ _ | (refine Aside0.out (p := Below _ _ _) ?_; assumption) | refine below_drew ?_ | refine below_alloc ?_ _ | (refine below_step ?_ (Aside0.out (p := Below _ _ _) (by assumption)))))) _) H2.out⟩
  · have HN : Aside0 (wOp L ⟨kind, v, n, A, co, B⟩ = wAppend L B n) := ⟨by unfold wOp; dsimp only; rw [hq]; rfl⟩
    have hq' : (kind : Int) % 6 = 5 := by omega
    clear hq
    go_enter Try.func20, Try.ntmps20
    go_wp2_with (go_at_call 53; refine (Append_any S p L A co B n _ (HW.out.below (by (repeat (first | with_reducible exact Below.refl _ _ | (refine Aside0.out (p := Below _ _ _) ?_; assumption) | refine below_drew ?_ | refine below_alloc ?_ _ | (refine below_step ?_ (Aside0.out (p := Below _ _ _) (by assumption))))))) hL (Kd.C_below HC.out (by (repeat (first | with_reducible exact Below.refl _ _ | (refine Aside0.out (p := Below _ _ _) ?_; assumption) | refine below_drew ?_ | refine below_alloc ?_ _ | (refine below_step ?_ (Aside0.out (p := Below _ _ _) (by assumption))))))) H8.out (by omega) HA.out).mono ?_; rintro e w2 ⟨rfl, h2⟩; have H2 := Aside0.mk h2; clear h2)
    go_ret
    rw [HN.out]
    exact ⟨rfl, WrTo.glue (fun k hk => .inl hk) (Fr.below (by (repeat (first | with_reducible exact Below.refl _ _ | (refine Aside0.out (p := Below _ _ _) ?_; assumption) | refine below_drew ?_ | refine below_alloc ?_ _ | (refine below_step ?_ (Aside0.out (p := Below _ _ _) (by assumption)))))) _) H2.out⟩

set_option maxHeartbeats 2000000 in
set_option maxRecDepth 100000 in
theorem told_any (S : Nat → Prop) (p : Nat) (L : List Int) (o : OpD) (w : World) (hW : RWr w S p L) (hL : L.length ≤ 1048576) (ho : o.ok w) (hB : o.B.length ≤ 140000) :
    Calls Try.prog 21 #[.pointer (some ⟨p, 0, none⟩), o.val] w fun e w' => e = .returned (.int .i64 (wOp L o).1) ∧ RWrTo w S p (wOp L o).2 w' := by
  obtain ⟨kind, v, n, A, co, B⟩ := o
  obtain ⟨hk, hv, hn, hC, h8, hcap, _, hblk⟩ := ho
  dsimp only [OpD.val] at *
  have HW := Aside0.mk hW
  have HC := Aside0.mk hC
  have H8 := Aside0.mk h8
  have hk6 : kind % 6 = 0 ∨ kind % 6 = 1 ∨ kind % 6 = 2 ∨ kind % 6 = 3 ∨ kind % 6 = 4 ∨ kind % 6 = 5 := by omega
  clear hW hC h8 hblk
  rcases hk6 with hq | hq | hq | hq | hq | hq
  · have HN : Aside0 (wOp L ⟨kind, v, n, A, co, B⟩ = wPut L v n) := ⟨by unfold wOp; dsimp only; rw [hq]; rfl⟩
    have hq' : (kind : Int) % 6 = 0 := by omega
    clear hq
    go_enter Try.func21, Try.ntmps21
    go_wp2_with (go_at_call 54; refine (RPut_any S p L v n _ (HW.out.below (by (repeat (first | with_reducible exact Below.refl _ _ | (refine Aside0.out (p := Below _ _ _) ?_; assumption) | refine below_drew ?_ | refine below_alloc ?_ _ | (refine below_step ?_ (Aside0.out (p := Below _ _ _) (by assumption))))))) hL).mono ?_; rintro e w2 ⟨rfl, h2⟩; have H2 := Aside0.mk h2; clear h2)
    go_ret
    rw [HN.out]
    exact ⟨rfl, RWrTo.glue (fun k hk => .inl hk) (Fr.below (by (repeat (first | with_reducible exact Below.refl _ _ | (refine Aside0.out (p := Below _ _ _) ?_; assumption) | refine below_drew ?_ | refine below_alloc ?_ _ | (refine below_step ?_ (Aside0.out (p := Below _ _ _) (by assumption)))))) _) H2.out⟩
  · have HN : Aside0 (wOp L ⟨kind, v, n, A, co, B⟩ = wSigned L v n) := ⟨by unfold wOp; dsimp only; rw [hq]; rfl⟩
    have hq' : (kind : Int) % 6 = 1 := by omega
    clear hq
    go_enter Try.func21, Try.ntmps21
    go_wp2_with (go_at_call 55; refine (RSignedW_any S p L v n _ (HW.out.below (by (repeat (first | with_reducible exact Below.refl _ _ | (refine Aside0.out (p := Below _ _ _) ?_; assumption) | refine below_drew ?_ | refine below_alloc ?_ _ | (refine below_step ?_ (Aside0.out (p := Below _ _ _) (by assumption))))))) hL).mono ?_; rintro e w2 ⟨rfl, h2⟩; have H2 := Aside0.mk h2; clear h2)
    go_ret
    rw [HN.out]
    exact ⟨rfl, RWrTo.glue (fun k hk => .inl hk) (Fr.below (by (repeat (first | with_reducible exact Below.refl _ _ | (refine Aside0.out (p := Below _ _ _) ?_; assumption) | refine below_drew ?_ | refine below_alloc ?_ _ | (refine below_step ?_ (Aside0.out (p := Below _ _ _) (by assumption)))))) _) H2.out⟩
  · have HN : Aside0 (wOp L ⟨kind, v, n, A, co, B⟩ = wUnary L v) := ⟨by unfold wOp; dsimp only; rw [hq]; rfl⟩
    have hq' : (kind : Int) % 6 = 2 := by omega
    clear hq
    go_enter Try.func21, Try.ntmps21
    go_wp2_with (go_at_call 56; refine (RUnaryW_any S p L v _ (HW.out.below (by (repeat (first | with_reducible exact Below.refl _ _ | (refine Aside0.out (p := Below _ _ _) ?_; assumption) | refine below_drew ?_ | refine below_alloc ?_ _ | (refine below_step ?_ (Aside0.out (p := Below _ _ _) (by assumption))))))) hL).mono ?_; rintro e w2 ⟨rfl, h2⟩; have H2 := Aside0.mk h2; clear h2)
    go_ret
    rw [HN.out]
    exact ⟨rfl, RWrTo.glue (fun k hk => .inl hk) (Fr.below (by (repeat (first | with_reducible exact Below.refl _ _ | (refine Aside0.out (p := Below _ _ _) ?_; assumption) | refine below_drew ?_ | refine below_alloc ?_ _ | (refine below_step ?_ (Aside0.out (p := Below _ _ _) (by assumption)))))) _) H2.out⟩
  · have HN : Aside0 (wOp L ⟨kind, v, n, A, co, B⟩ = wGamma L v) := ⟨by unfold wOp; dsimp only; rw [hq]; rfl⟩
    have hq' : (kind : Int) % 6 = 3 := by omega
    clear hq
    go_enter Try.func21, Try.ntmps21
    go_wp2_with (go_at_call 57; refine (RGammaW_any S p L v _ (HW.out.below (by (repeat (first | with_reducible exact Below.refl _ _ | (refine Aside0.out (p := Below _ _ _) ?_; assumption) | refine below_drew ?_ | refine below_alloc ?_ _ | (refine below_step ?_ (Aside0.out (p := Below _ _ _) (by assumption))))))) hL).mono ?_; rintro e w2 ⟨rfl, h2⟩; have H2 := Aside0.mk h2; clear h2)
    go_ret
    rw [HN.out]
    exact ⟨rfl, RWrTo.glue (fun k hk => .inl hk) (Fr.below (by (repeat (first | with_reducible exact Below.refl _ _ | (refine Aside0.out (p := Below _ _ _) ?_; assumption) | refine below_drew ?_ | refine below_alloc ?_ _ | (refine below_step ?_ (Aside0.out (p := Below _ _ _) (by assumption)))))) _) H2.out⟩
  · have HN : Aside0 (wOp L ⟨kind, v, n, A, co, B⟩ = wAlign L v) := ⟨by unfold wOp; dsimp only; rw [hq]; rfl⟩
    have hq' : (kind : Int) % 6 = 4 := by omega
    clear hq
    go_enter Try.func21, Try.ntmps21
    go_wp2_with (go_at_call 58; refine (RAlignW_any S p L v _ (HW.out.below (by (repeat (first | with_reducible exact Below.refl _ _ | (refine Aside0.out (p := Below _ _ _) ?_; assumption) | refine below_drew ?_ | refine below_alloc ?_ _ | (refine below_step ?_ (Aside0.out (p := Below _ _ _) (by assumption))))))) hL).mono ?_; rintro e w2 ⟨rfl, h2⟩; have H2 := Aside0.mk h2; clear h2)
    go_ret
    rw [HN.out]
    exact ⟨rfl, RWrTo.glue (fun k hk => .inl hk) (Fr.below (by (repeat (first | with_reducible exact Below.refl _ _ | (refine Aside0.out (p := Below _ _ _) ?_; assumption) | refine below_drew ?_ | refine below_alloc ?_ _ | (refine below_step ?_ (Aside0.out (p := Below _ _ _) (by assumption)))))) _) H2.out⟩
  · have HN : Aside0 (wOp L ⟨kind, v, n, A, co, B⟩ = wAppend L B n) := ⟨by unfold wOp; dsimp only; rw [hq]; rfl⟩
    have hq' : (kind : Int) % 6 = 5 := by omega
    clear hq
    go_enter Try.func21, Try.ntmps21
    go_wp2_with (go_at_call 59; refine (RAppend_any S p L A co B n _ (HW.out.below (by (repeat (first | with_reducible exact Below.refl _ _ | (refine Aside0.out (p := Below _ _ _) ?_; assumption) | refine below_drew ?_ | refine below_alloc ?_ _ | (refine below_step ?_ (Aside0.out (p := Below _ _ _) (by assumption))))))) hL (Kd.C_below HC.out (by (repeat (first | with_reducible exact Below.refl _ _ | (refine Aside0.out (p := Below _ _ _) ?_; assumption) | refine below_drew ?_ | refine below_alloc ?_ _ | (refine below_step ?_ (Aside0.out (p := Below _ _ _) (by assumption))))))) H8.out (by omega)).mono ?_; rintro e w2 ⟨rfl, h2⟩; have H2 := Aside0.mk h2; clear h2)
    go_ret
    rw [HN.out]
    exact ⟨rfl, RWrTo.glue (fun k hk => .inl hk) (Fr.below (by (repeat (first | with_reducible exact Below.refl _ _ | (refine Aside0.out (p := Below _ _ _) ?_; assumption) | refine below_drew ?_ | refine below_alloc ?_ _ | (refine below_step ?_ (Aside0.out (p := Below _ _ _) (by assumption)))))) _) H2.out⟩
end Go.Proofs.Ytmjekkkpbcehoaa.P
