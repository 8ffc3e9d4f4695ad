/- Words of Rice codes: the contracts of rice.get, back, Get. Words of Rice codes: the contracts of the reference's Unfold, Fold, Get. -/
import Derived.Test.YtnpheeendbchbaaHe
import Derived.Test.YtnpheeendbchbaaBj
import Derived.Defers
import Derived.RegionTactic
import Derived.Test.YtnpheeendbchbaaEa
section
namespace Go.Proofs.Ytnpheeendbchbaa.P
open Go.RowKit Go.Shelf Go.Proofs.Ytnpheeendbchbaa.Bits Go.Proofs.YtnpheeendbchbaaW.PrintWords Go.Proofs.YtnpheeendbchbaaW.PrintLast Go.Proofs.YtnpheeendbchbaaW.PrintMore
set_option linter.unusedVariables false
set_option linter.unusedSimpArgs false
attribute [local go_sem ↓] Go.wp_at_zero Go.wp_at_succ

/-- What Get reads. -/
def rRice (L : List Int) (a k : Nat) : Int × Int × Nat :=
  if (rUnary L a 24).2.1 ≠ 0 then (0, (rUnary L a 24).2.1, a)
  else if (rUnary L a 24).1 < 24 then
    if (rGet L (rUnary L a 24).2.2 (k : Int)).2.1 ≠ 0 then (0, (rGet L (rUnary L a 24).2.2 (k : Int)).2.1, a)
    else (unfoldI ((rUnary L a 24).1 * 2 ^ k + (rGet L (rUnary L a 24).2.2 (k : Int)).1), 0, (rGet L (rUnary L a 24).2.2 (k : Int)).2.2)
  else if (rGet L (rUnary L a 24).2.2 32).2.1 ≠ 0 then (0, (rGet L (rUnary L a 24).2.2 32).2.1, a)
  else if (rGet L (rUnary L a 24).2.2 32).1 / 2 ^ k < 24 then (0, 4, a)
  else (unfoldI (rGet L (rUnary L a 24).2.2 32).1, 0, (rGet L (rUnary L a 24).2.2 32).2.2)
theorem rUnary_ok {L : List Int} {a : Nat} (h : (rUnary L a 24).2.1 = 0) : ∃ z : Nat, z ≤ 24 ∧ (rUnary L a 24).1 = z ∧ (rUnary L a 24).2.2 ≤ L.length := by
  have e : rUnary L a 24 = rZeros L a 24 := by unfold rUnary; rw [if_neg (by omega)]; rfl
  rw [e] at h ⊢
  rcases rZeros_cases L a 24 with (h1 | h1) | ⟨z, hz, hl, h1⟩
  · rw [h1] at h; cases h
  · rw [h1] at h; cases h
  · rw [h1]; exact ⟨z, hz, rfl, by dsimp only; omega⟩
theorem rGet_ok {L : List Int} {b n : Nat} (h01 : is01 L) (h : (rGet L b (n : Int)).2.1 = 0) : 0 ≤ (rGet L b (n : Int)).1 ∧ (rGet L b (n : Int)).1 < 2 ^ n := by
  unfold rGet at *
  split at h
  · cases h
  · split at h
    · cases h
    · rename_i h1 h2
      rw [if_neg h1, if_neg h2, Int.toNat_natCast]
      have hb := val_bound (is01_take (is01_drop h01 b) n)
      have hl : ((L.drop b).take n).length ≤ n := by rw [List.length_take]; omega
      refine ⟨hb.1, Int.lt_of_lt_of_le hb.2 ?_⟩
      exact_mod_cast Nat.pow_le_pow_right (by omega) hl
theorem rGet_err {L : List Int} {b : Nat} {n : Int} (h : (rGet L b n).2.1 ≠ 0) : (rGet L b n).1 = 0 := by
  unfold rGet at *
  split at h
  · rename_i h1; rw [if_pos h1]
  · split at h
    · rename_i h1 h2; rw [if_neg h1, if_pos h2]
    · exact absurd rfl h
theorem or_mul (q k : Nat) (x : Int) (hq : q < 24) (hk : k ≤ 14) (h0 : 0 ≤ x) (h1 : x < 2 ^ k) : Go.bits BinOp.or IntKind.i64 ((q : Int) * 2 ^ k) x = (q : Int) * 2 ^ k + x := by
  obtain ⟨y, rfl⟩ : ∃ y : Nat, x = y := ⟨x.toNat, by omega⟩
  have h2 : y < 2 ^ k := by exact_mod_cast h1
  have h3 : 2 ^ k ≤ 2 ^ 14 := Nat.pow_le_pow_right (by omega) hk
  have h4 : q * 2 ^ k ≤ 24 * 2 ^ k := Nat.mul_le_mul_right _ (by omega)
  have e : (q : Int) * 2 ^ k = ((q * 2 ^ k : Nat) : Int) := by push_cast; rfl
  rw [e, or_i64 _ _ (by omega) (by omega), Nat.mul_comm q, ← Nat.two_pow_add_eq_or_of_lt h2 q]
  push_cast
  rfl
/-- What get gives; with an error the position is somewhere. -/
def GetPost (w : World) (S : Nat → Prop) (p : Nat) (L : List Int) (r : Int × Int × Nat) (e : Ending) (w' : World) : Prop :=
  ∃ v a', e = .returned (.tuple #[.int .i64 v, .int .i64 r.2.1]) ∧ (r.2.1 = 0 → v = r.1 ∧ a' = r.2.2) ∧ Rd w' S p L a' ∧ Fr (fun k => k = p) w w'
set_option maxHeartbeats 4000000 in
set_option maxRecDepth 100000 in
theorem get_any5 (S : Nat → Prop) (p a k : Nat) (L : List Int) (w : World) (hR : Rd w S p L a) (hk : k ≤ 14) :
    Calls Try.prog 55 #[.pointer (some ⟨p, 0, none⟩), .int .i64 (k : Int)] w (GetPost w S p L (rRice L a k)) := by
  have h01 := hR.bits
  have HRR : Aside0 (rRice L a k = _) := ⟨rRice.eq_1 L a k⟩
  have HU := Aside0.mk (RUnary_any S p a L 24 w hR)
  have hu := @rUnary_ok L a
  have HG := Aside0.mk (fun b n W (h : Rd W S p L b) => Get_any S p b L n W h)
  have hg1 := fun b => @rGet_ok L b k h01
  have hg2 := fun b => @rGet_ok L b 32 h01
  have hpk : (1 : Int) ≤ 2 ^ k ∧ (2 : Int) ^ k ≤ 16384 := by
    have h1 : (2 : Nat) ^ k ≤ 2 ^ 14 := Nat.pow_le_pow_right (by omega) hk
    have h2 : 1 ≤ (2 : Nat) ^ k := Nat.one_le_two_pow
    have h3 : ((2 ^ k : Nat) : Int) = (2 : Int) ^ k := by norm_cast
    omega
  generalize rRice L a k = rr at *
  generalize rUnary L a 24 = u at *
  obtain ⟨q, e1, b⟩ := u
  dsimp only at HRR hu
  unfold RdPost at HU HG
  dsimp only at HU
  clear hR
  by_cases he1 : e1 = 0
  case neg =>
    rw [if_pos he1] at HRR
    have q1 : (e1 != 0) = true := by simpa using he1
    clear hu hg1 hg2
    go_enter Try.func55, Try.ntmps55
    go_wp2_with fail
    refine HU.out.mono ?_
    rintro e w1 ⟨rfl, hr, hf⟩
    have HR1 := Aside0.mk hr
    have HF1 := Aside0.mk hf
    clear hr hf
    go_wp2_with fail
    go_ret2
    unfold GetPost
    rw [HRR.out]
    exact ⟨_, b, rfl, fun h => absurd h he1, HR1.out, HF1.out⟩
  subst he1
  rw [if_neg (by simp)] at HRR
  obtain ⟨n, hn, rfl, hbl⟩ := hu rfl
  clear hu
  have qe : ((0 : Int) != 0) = false := by decide
  by_cases hlt : n < 24
  · rw [if_pos (by omega)] at HRR
    have d1 : decide ((n : Int) < 24) = true := by simp; omega
    have HGG := Aside0.mk (HG.out b (k : Int))
    have hgg := hg1 b
    have hge := @rGet_err L b (k : Int)
    generalize rGet L b (k : Int) = g at *
    obtain ⟨x, e2, c⟩ := g
    dsimp only at HRR HGG hgg hge
    clear hg1 hg2
    by_cases he2 : e2 = 0
    · subst he2
      rw [if_neg (by simp)] at HRR
      have hx := hgg rfl
      have HOR := or_mul n k x hlt hk hx.1 hx.2
      have hnk : 0 ≤ (n : Int) * 2 ^ k ∧ (n : Int) * 2 ^ k ≤ 393216 := by
        have h1 : n * 2 ^ k ≤ 24 * 2 ^ 14 := Nat.mul_le_mul (by omega) (Nat.pow_le_pow_right (by omega) hk)
        have h2 : ((n * 2 ^ k : Nat) : Int) = (n : Int) * 2 ^ k := by push_cast; rfl
        omega
      have HUF := Aside0.mk (fun W => unfold_any (u := (n : Int) * 2 ^ k + x) (by omega) W)
      have s1 : wrap64 ((n : Int) * 2 ^ k) = (n : Int) * 2 ^ k := wrap64_id (by omega) (by omega)
      generalize unfoldI ((n : Int) * 2 ^ k + x) = y at *
      generalize hm : (n : Int) * 2 ^ k = m at *
      clear hgg hlt hx hnk hge
      go_enter Try.func55, Try.ntmps55
      go_wp2_with fail
      refine HU.out.mono ?_
      rintro e w1 ⟨rfl, hr, hf⟩
      have HR1 := Aside0.mk hr
      have HF1 := Aside0.mk hf
      clear hr hf
      go_wp2_with fail
      refine (HGG.out _ HR1.out).mono ?_
      rintro e w2 ⟨rfl, hr, hf⟩
      have HR2 := Aside0.mk hr
      have HF2 := Aside0.mk (HF1.out.trans hf)
      clear hr hf
      go_wp2_with fail
      refine (HUF.out _).mono ?_
      rintro e w3 ⟨rfl, hd⟩
      have HD := Aside0.mk hd.below
      clear hd
      go_wp2_with fail
      go_ret2
      unfold GetPost
      rw [HRR.out]
      exact ⟨_, c, rfl, fun _ => ⟨rfl, rfl⟩, HR2.out.below HD.out, HF2.out.trans (Fr.below HD.out _)⟩
    · rw [if_pos he2] at HRR
      obtain rfl := hge he2
      have hx : (0 : Int) ≤ 0 ∧ (0 : Int) < 2 ^ k := ⟨by omega, by omega⟩
      have HOR := or_mul n k 0 hlt hk hx.1 hx.2
      rw [Int.add_zero] at HOR
      have hnk : 0 ≤ (n : Int) * 2 ^ k ∧ (n : Int) * 2 ^ k ≤ 393216 := by
        have h1 : n * 2 ^ k ≤ 24 * 2 ^ 14 := Nat.mul_le_mul (by omega) (Nat.pow_le_pow_right (by omega) hk)
        have h2 : ((n * 2 ^ k : Nat) : Int) = (n : Int) * 2 ^ k := by push_cast; rfl
        omega
      have HUF := Aside0.mk (fun W => unfold_any (u := (n : Int) * 2 ^ k) (by omega) W)
      have s1 : wrap64 ((n : Int) * 2 ^ k) = (n : Int) * 2 ^ k := wrap64_id (by omega) (by omega)
      generalize unfoldI ((n : Int) * 2 ^ k) = y at *
      generalize hm : (n : Int) * 2 ^ k = m at *
      have HE2 := Aside0.mk he2
      clear hgg hlt hx hnk he2 hge
      go_enter Try.func55, Try.ntmps55
      go_wp2_with fail
      refine HU.out.mono ?_
      rintro e w1 ⟨rfl, hr, hf⟩
      have HR1 := Aside0.mk hr
      have HF1 := Aside0.mk hf
      clear hr hf
      go_wp2_with fail
      refine (HGG.out _ HR1.out).mono ?_
      rintro e w2 ⟨rfl, hr, hf⟩
      have HR2 := Aside0.mk hr
      have HF2 := Aside0.mk (HF1.out.trans hf)
      clear hr hf
      go_wp2_with fail
      refine (HUF.out _).mono ?_
      rintro e w3 ⟨rfl, hd⟩
      have HD := Aside0.mk hd.below
      clear hd
      go_wp2_with fail
      go_ret2
      unfold GetPost
      rw [HRR.out]
      exact ⟨_, c, rfl, fun h => absurd h HE2.out, HR2.out.below HD.out, HF2.out.trans (Fr.below HD.out _)⟩
  · obtain rfl : n = 24 := by omega
    rw [if_neg (by omega)] at HRR
    have HGG := Aside0.mk (HG.out b 32)
    have hgg := hg2 b
    generalize rGet L b 32 = g at *
    obtain ⟨x, e2, c⟩ := g
    dsimp only at HRR HGG hgg
    clear hg1 hg2 hlt
    by_cases he2 : e2 = 0
    case neg =>
      rw [if_pos he2] at HRR
      have q1 : (e2 != 0) = true := by simpa using he2
      have HE2 := Aside0.mk he2
      clear hgg he2
      go_enter Try.func55, Try.ntmps55
      go_wp2_with fail
      refine HU.out.mono ?_
      rintro e w1 ⟨rfl, hr, hf⟩
      have HR1 := Aside0.mk hr
      have HF1 := Aside0.mk hf
      clear hr hf
      go_wp2_with fail
      refine (HGG.out _ HR1.out).mono ?_
      rintro e w2 ⟨rfl, hr, hf⟩
      have HR2 := Aside0.mk hr
      have HF2 := Aside0.mk (HF1.out.trans hf)
      clear hr hf
      go_wp2_with fail
      go_ret2
      unfold GetPost
      rw [HRR.out]
      exact ⟨_, c, rfl, fun h => absurd h HE2.out, HR2.out, HF2.out⟩
    subst he2
    rw [if_neg (by simp)] at HRR
    have hx := hgg rfl
    simp only [Int.reducePow] at hx
    have HUF := Aside0.mk (fun W => unfold_any (u := x) (by omega) W)
    clear hgg
    by_cases hs : x / 2 ^ k < 24
    · rw [if_pos hs] at HRR
      have d2 : decide (x / 2 ^ k < 24) = true := by simpa using hs
      clear hs
      go_enter Try.func55, Try.ntmps55
      go_wp2_with fail
      refine HU.out.mono ?_
      rintro e w1 ⟨rfl, hr, hf⟩
      have HR1 := Aside0.mk hr
      have HF1 := Aside0.mk hf
      clear hr hf
      go_wp2_with fail
      refine (HGG.out _ HR1.out).mono ?_
      rintro e w2 ⟨rfl, hr, hf⟩
      have HR2 := Aside0.mk hr
      have HF2 := Aside0.mk (HF1.out.trans hf)
      clear hr hf
      go_wp2_with fail
      go_ret2
      unfold GetPost
      rw [HRR.out]
      exact ⟨_, c, rfl, fun h => absurd h (by simp), HR2.out, HF2.out⟩
    · rw [if_neg hs] at HRR
      have d2 : decide (x / 2 ^ k < 24) = false := by simpa using hs
      clear hs
      go_enter Try.func55, Try.ntmps55
      go_wp2_with fail
      refine HU.out.mono ?_
      rintro e w1 ⟨rfl, hr, hf⟩
      have HR1 := Aside0.mk hr
      have HF1 := Aside0.mk hf
      clear hr hf
      go_wp2_with fail
      refine (HGG.out _ HR1.out).mono ?_
      rintro e w2 ⟨rfl, hr, hf⟩
      have HR2 := Aside0.mk hr
      have HF2 := Aside0.mk (HF1.out.trans hf)
      clear hr hf
      go_wp2_with fail
      refine (HUF.out _).mono ?_
      rintro e w3 ⟨rfl, hd⟩
      have HD := Aside0.mk hd.below
      clear hd
      go_wp2_with fail
      go_ret2
      unfold GetPost
      rw [HRR.out]
      exact ⟨_, c, rfl, fun _ => ⟨rfl, rfl⟩, HR2.out.below HD.out, HF2.out.trans (Fr.below HD.out _)⟩

/-- What back leaves. -/
def BackPost (S : Nat → Prop) (p at_ : Nat) (L : List Int) (er : Int) (w w' : World) : Prop := if er = 0 then w' = w else Rd w' S p L at_ ∧ Fr (fun k => k = p) w w'
/-- back: with an error the reader goes back. -/
theorem back_any (S : Nat → Prop) (p a at_ : Nat) (L : List Int) (ea : Addr) (er : Int) (u : FrameMode) (w : World) (hR : Rd w S p L a) (hat : at_ ≤ L.length) (hc : w.cell? ea = some (.int .i64 er)) :
    CallsD Try.prog 54 #[.pointer (some ⟨p, 0, none⟩), .int .i64 (at_ : Int), .pointer (some ea)] u w fun e u' w' => u' = u ∧ (e = .returned (.tuple #[]) ∧ BackPost S p at_ L er w w') := by
  refine callsD_of_wp Try.func54 rfl ?_
  simp only [Try.ntmps54, List.size_toArray, List.length_cons, List.length_nil, Nat.reduceAdd, Nat.reduceSub, Array.replicate_succ, Array.replicate_zero, List.push_toArray, List.append_toArray, List.nil_append, List.cons_append]
  have hsk := Seek_any S p a L (at_ : Int) w hR
  rw [show rSeek L a (at_ : Int) = (0, at_) by unfold rSeek; rw [if_neg (by omega), Int.toNat_natCast]] at hsk
  have HSK := Aside0.mk hsk
  clear hsk hR
  by_cases he : er = 0
  · subst he
    go_wp2_with fail
    (try simp only [Exit.inBlock, Exit.then])
    first | refine bodyPost_ret (results_none rfl _ _ _) rfl ?_ | refine bodyPost_end (results_none rfl _ _ _) rfl ?_
    exact ⟨rfl, by unfold BackPost; rw [if_pos rfl]⟩
  · have q1 : (er != 0) = true := by simpa using he
    have HE := Aside0.mk he
    clear he
    go_wp2_with fail
    refine HSK.out.mono ?_
    rintro e w1 ⟨rfl, hr, hf⟩
    have HR1 := Aside0.mk hr
    have HF1 := Aside0.mk hf
    clear hr hf
    go_wp2_with fail
    (try simp only [Exit.inBlock, Exit.then])
    first | refine bodyPost_ret (results_none rfl _ _ _) rfl ?_ | refine bodyPost_end (results_none rfl _ _ _) rfl ?_
    exact ⟨rfl, by unfold BackPost; rw [if_neg HE.out]; exact ⟨HR1.out, HF1.out⟩⟩

theorem run_loadVar_int {P : Program} (w : World) (a : Addr) (ty : TypeId) (k : IntKind) (n : Int) (hu : P.underlying ty = some (.int k)) (hc : w.cell? a = some (.int k n)) : (loadVar ty a).run P w = .ok (.int k n) w := by
  simp [loadVar, isAgg, run_underlying hu, go_sem, hc]
theorem results_tc {P : Program} {fn : Func} {u q : Tmp} {ty2 : TypeId} (h : fn.results = #[.tmp u, .cell q ty2]) (tmps : Array Value) (w : World)
    (a : Addr) (k : IntKind) (n : Int) (hq : tmps.getD q undef = .pointer (some a)) (hc : w.cell? a = some (.int k n)) (hu2 : P.underlying ty2 = some (.int k)) :
    (results fn tmps).run P w = .ok (.tuple #[tmps.getD u undef, .int k n]) w := by
  have hq' : tmps[q]?.getD undef = .pointer (some a) := by simpa using hq
  simp [results, h, hq', asAddr, run_loadVar_int w a ty2 k n hu2 hc]
def fGet (L : List Int) (a : Nat) (k : Int) : Int × Int × Nat := if k < 0 ∨ 14 < k then (0, 1, a) else rRice L a k.toNat
theorem rRice_err {L : List Int} {a k : Nat} (h : (rRice L a k).2.1 ≠ 0) : (rRice L a k).1 = 0 ∧ (rRice L a k).2.2 = a := by
  unfold rRice at *
  repeat' split
  all_goals first | exact ⟨rfl, rfl⟩ | (exfalso; simp_all)
abbrev errBox (x : Int) : Obj := .cells #[.int .i64 x] 22 (0, 0)
set_option maxHeartbeats 4000000 in
set_option maxRecDepth 100000 in
theorem Get_any5 (S : Nat → Prop) (p a : Nat) (L : List Int) (k : Int) (w : World) (hR : Rd w S p L a) :
    Calls Try.prog 21 #[.pointer (some ⟨p, 0, none⟩), .int .i64 k] w (RdPost w S p L (fGet L a k)) := by
  have hpl := hR.p_lt
  have hal := hR.at_le
  obtain ⟨w1, hw1⟩ : ∃ w1, w1 = w.alloc (errBox 0) := ⟨_, rfl⟩
  obtain ⟨g, hg⟩ : ∃ g, g = w.heap.size := ⟨_, rfl⟩
  have hb1 : Below w.heap.size w w1 := by rw [hw1]; exact below_alloc (Below.refl _ _) _
  have hk1 : w1.heap[g]? = some (errBox 0) := by rw [hw1, hg]; exact World.alloc_heap_new w _
  have HR1 := Aside0.mk (hR.below hb1)
  have HSL := Aside0.mk (fun k (h : S k) => hR.lt k h)
  have HB1 := Aside0.mk hb1
  have HK1 := Aside0.mk hk1
  have HE : Aside0 (w.alloc (.cells #[.int .i64 0] 22) = w1) := ⟨hw1.symm⟩
  have HGE := Aside0.mk hg
  have HPL := Aside0.mk hpl
  have HFG : Aside0 (fGet L a k = if k < 0 ∨ 14 < k then (0, 1, a) else rRice L a k.toNat) := ⟨rfl⟩
  generalize fGet L a k = fg at *
  have c1 := cell_of_one hk1
  have f1 : w1.frozen? ⟨g, 0, none⟩ = false := blk_frozen hk1 0
  have hcn : (w.alloc (.cells #[.int .i64 0] 22)).cell? ⟨w.heap.size, 0, none⟩ = some (.int .i64 0) := by rw [HE.out, ← HGE.out]; exact c1
  have hfn : (w.alloc (.cells #[.int .i64 0] 22)).frozen? ⟨w.heap.size, 0, none⟩ = false := by rw [HE.out, ← HGE.out]; exact f1
  have HX1 : Aside0 (Rd (w.alloc (errBox 1)) S p L a) := ⟨hR.below (below_alloc (Below.refl _ _) _)⟩
  clear hR hw1 hb1 hk1 hg c1 f1
  by_cases h1 : k < 0
  · skip
    rw [if_pos (.inl h1)] at HFG
    have d1 : decide (k < 0) = true := by simpa using h1
    clear h1 hcn hfn
    go_enter_defers Try.func21, Try.ntmps21
    go_wp2_with fail
    refine ⟨_, results_tc rfl _ _ ⟨w.heap.size, 0, none⟩ .i64 1 rfl (cell_of_one (World.alloc_heap_new w (errBox 1))) Try.underlying22, ?_⟩
    unfold RdPost
    rw [HFG.out]
    exact ⟨rfl, HX1.out, Fr.below (below_alloc (Below.refl _ _) _) _⟩
  have d1 : decide (k < 0) = false := by simpa using h1
  by_cases h2 : 14 < k
  · skip
    rw [if_pos (.inr h2)] at HFG
    have d2 : decide (14 < k) = true := by simpa using h2
    clear h1 h2 hcn hfn
    go_enter_defers Try.func21, Try.ntmps21
    go_wp2_with fail
    refine ⟨_, results_tc rfl _ _ ⟨w.heap.size, 0, none⟩ .i64 1 rfl (cell_of_one (World.alloc_heap_new w (errBox 1))) Try.underlying22, ?_⟩
    unfold RdPost
    rw [HFG.out]
    exact ⟨rfl, HX1.out, Fr.below (below_alloc (Below.refl _ _) _) _⟩
  have d2 : decide (14 < k) = false := by simpa using h2
  rw [if_neg (by omega)] at HFG
  obtain ⟨m, rfl⟩ : ∃ m : Nat, k = m := ⟨k.toNat, by omega⟩
  rw [Int.toNat_natCast] at HFG
  have HAT := Aside0.mk (At_any S p a L w1 HR1.out)
  have HGT := Aside0.mk (get_any5 S p a m L w1 HR1.out (by omega))
  have HRE := Aside0.mk (@rRice_err L a m)
  generalize rRice L a m = r at *
  obtain ⟨v0, er, b⟩ := r
  dsimp only at HRE
  unfold GetPost at HGT
  dsimp only at HGT
  clear h1 h2 hcn hfn
  have hpg : p < g := by have := HGE.out; omega
  have HSG : Aside0 (∀ k, S k → k < g) := ⟨fun k h => by have := HSL.out k h; have := HGE.out; omega⟩
  by_cases he : er = 0
  · subst he
    go_enter_defers Try.func21, Try.ntmps21
    go_wp2_with fail
    rw [HE.out, ← HGE.out]
    refine HAT.out.mono ?_
    rintro e w2 ⟨rfl, hw⟩
    obtain rfl := hw.symm
    go_wp2_with fail
    refine HGT.out.mono ?_
    rintro e w2 ⟨v, a', rfl, hv, hr, hf⟩
    obtain ⟨rfl, rfl⟩ := hv trivial
    have hk2 := blk_fr HK1.out hf (by omega)
    have c2 := cell_of_one hk2
    have f2 : w2.frozen? ⟨g, 0, none⟩ = false := blk_frozen hk2 0
    have hs : Fr (fun k => k = g) w2 (w2.setCell ⟨g, 0, none⟩ (.int .i64 0)) := Fr.setCell (S := fun k => k = g) (Fr.refl _ _) (p := ⟨g, 0, none⟩) (fun _ => rfl) _
    have hk3 : (w2.setCell ⟨g, 0, none⟩ (.int .i64 0)).heap[g]? = some (errBox 0) := by rw [heap_setCell_same _ _ _ _ _ _ hk2]; rfl
    have c3 := cell_of_one hk3
    have f3 : (w2.setCell ⟨g, 0, none⟩ (.int .i64 0)).frozen? ⟨g, 0, none⟩ = false := blk_frozen hk3 0
    have hs4 : Fr (fun k => k = g) (w2.setCell ⟨g, 0, none⟩ (.int .i64 0)) ((w2.setCell ⟨g, 0, none⟩ (.int .i64 0)).setCell ⟨g, 0, none⟩ (.int .i64 0)) := Fr.setCell (S := fun k => k = g) (Fr.refl _ _) (p := ⟨g, 0, none⟩) (fun _ => rfl) _
    have hk4 : ((w2.setCell ⟨g, 0, none⟩ (.int .i64 0)).setCell ⟨g, 0, none⟩ (.int .i64 0)).heap[g]? = some (errBox 0) := by rw [heap_setCell_same _ _ _ _ _ _ hk3]; rfl
    have c4 := cell_of_one hk4
    have HR4 := Aside0.mk ((hr.fr hs (by omega) (fun k hk => by have := HSG.out k hk; omega)).fr hs4 (by omega) (fun k hk => by have := HSG.out k hk; omega))
    have HF4 := Aside0.mk (((Fr.below HB1.out (fun k => k = p)).trans hf).next (hs.trans hs4) (fun i hi h => by have := HGE.out; omega))
    have HK4 := Aside0.mk hk4
    clear hr hf hs hs4 hk2 hk3 hk4
    go_wp2_with fail
    refine leaves_cons (f := 54) (args := #[.pointer (some ⟨p, 0, none⟩), .int .i64 (a : Int), .pointer (some ⟨g, 0, none⟩)]) (by simp) (by simp [go_sem]) ?_
    refine (back_any S p a' a L ⟨g, 0, none⟩ 0 _ _ HR4.out hal c4).mono ?_
    rintro e u' w'' ⟨rfl, rfl, hbk⟩
    unfold BackPost at hbk
    rw [if_pos rfl] at hbk
    subst hbk
    refine ⟨_, results_tc rfl _ _ ⟨g, 0, none⟩ .i64 0 rfl (cell_of_one HK4.out) Try.underlying22, ?_⟩
    unfold RdPost
    rw [HFG.out]
    exact ⟨rfl, HR4.out, HF4.out⟩
  · have q1 : (er != 0) = true := by simpa using he
    have HER := Aside0.mk he
    clear he
    go_enter_defers Try.func21, Try.ntmps21
    go_wp2_with fail
    rw [HE.out, ← HGE.out]
    refine HAT.out.mono ?_
    rintro e w2 ⟨rfl, hw⟩
    obtain rfl := hw.symm
    go_wp2_with fail
    refine HGT.out.mono ?_
    rintro e w2 ⟨v, a', rfl, hv, hr, hf⟩
    clear hv
    have hk2 := blk_fr HK1.out hf (by omega)
    have c2 := cell_of_one hk2
    have f2 : w2.frozen? ⟨g, 0, none⟩ = false := blk_frozen hk2 0
    have hs : Fr (fun k => k = g) w2 (w2.setCell ⟨g, 0, none⟩ (.int .i64 er)) := Fr.setCell (S := fun k => k = g) (Fr.refl _ _) (p := ⟨g, 0, none⟩) (fun _ => rfl) _
    have hk3 : (w2.setCell ⟨g, 0, none⟩ (.int .i64 er)).heap[g]? = some (errBox er) := by rw [heap_setCell_same _ _ _ _ _ _ hk2]; rfl
    have c3 := cell_of_one hk3
    have f3 : (w2.setCell ⟨g, 0, none⟩ (.int .i64 er)).frozen? ⟨g, 0, none⟩ = false := blk_frozen hk3 0
    have hs4 : Fr (fun k => k = g) (w2.setCell ⟨g, 0, none⟩ (.int .i64 er)) ((w2.setCell ⟨g, 0, none⟩ (.int .i64 er)).setCell ⟨g, 0, none⟩ (.int .i64 er)) := Fr.setCell (S := fun k => k = g) (Fr.refl _ _) (p := ⟨g, 0, none⟩) (fun _ => rfl) _
    have hk4 : ((w2.setCell ⟨g, 0, none⟩ (.int .i64 er)).setCell ⟨g, 0, none⟩ (.int .i64 er)).heap[g]? = some (errBox er) := by rw [heap_setCell_same _ _ _ _ _ _ hk3]; rfl
    have c4 := cell_of_one hk4
    have HR4 := Aside0.mk ((hr.fr hs (by omega) (fun k hk => by have := HSG.out k hk; omega)).fr hs4 (by omega) (fun k hk => by have := HSG.out k hk; omega))
    have HF4 := Aside0.mk (((Fr.below HB1.out (fun k => k = p)).trans hf).next (hs.trans hs4) (fun i hi h => by have := HGE.out; omega))
    have HK4 := Aside0.mk hk4
    clear hr hf hs hs4 hk2 hk3 hk4
    go_wp2_with fail
    go_region
    have HR5 := Aside0.mk (HR4.out.below (below_drew (Below.refl _ _)))
    have HF5 := Aside0.mk HF4.out.drew
    have c5 : ((w2.setCell ⟨g, 0, none⟩ (.int .i64 er)).setCell ⟨g, 0, none⟩ (.int .i64 er)).drew.cell? ⟨g, 0, none⟩ = some (.int .i64 er) := c4
    have HK5 : Aside0 (((w2.setCell ⟨g, 0, none⟩ (.int .i64 er)).setCell ⟨g, 0, none⟩ (.int .i64 er)).drew.heap[g]? = some (errBox er)) := ⟨HK4.out⟩
    (try simp only [Exit.then])
    go_wp2_with fail
    refine leaves_cons (f := 54) (args := #[.pointer (some ⟨p, 0, none⟩), .int .i64 (a : Int), .pointer (some ⟨g, 0, none⟩)]) (by simp) (by simp [go_sem]) ?_
    refine (back_any S p a' a L ⟨g, 0, none⟩ er _ _ HR5.out hal c5).mono ?_
    rintro e u' w'' ⟨rfl, rfl, hbk⟩
    unfold BackPost at hbk
    rw [if_neg HER.out] at hbk
    have hk6 := blk_fr HK5.out hbk.2 (by omega)
    refine ⟨_, results_tc rfl _ _ ⟨g, 0, none⟩ .i64 er rfl (cell_of_one hk6) Try.underlying22, ?_⟩
    unfold RdPost
    have hre := HRE.out HER.out
    rw [HFG.out, hre.1, hre.2]
    exact ⟨rfl, hbk.1, HF5.out.trans hbk.2⟩
theorem GetNil_any (k : Int) (w : World) : Calls Try.prog 21 #[.pointer none, .int .i64 k] w fun e w' => e = .returned (.tuple #[.int .i64 0, .int .i64 1]) ∧ Below w.heap.size w w' := by
  go_enter_defers Try.func21, Try.ntmps21
  go_wp2_with fail
  refine ⟨_, results_tc rfl _ _ ⟨w.heap.size, 0, none⟩ .i64 1 rfl (cell_of_one (World.alloc_heap_new w (errBox 1))) Try.underlying22, ?_⟩
  exact ⟨rfl, below_alloc (Below.refl _ _) _⟩
end Go.Proofs.Ytnpheeendbchbaa.P
end
section
namespace Go.Proofs.Ytnpheeendbchbaa.P
open Go.RowKit Go.Shelf Go.Proofs.Ytnpheeendbchbaa.Bits Go.Proofs.YtnpheeendbchbaaW.PrintWords Go.Proofs.YtnpheeendbchbaaW.PrintLast Go.Proofs.YtnpheeendbchbaaW.PrintMore
set_option linter.unusedVariables false
set_option linter.unusedSimpArgs false
attribute [local go_sem ↓] Go.wp_at_zero Go.wp_at_succ

def fUnfold (u : Int) : Int × Int := if u < 0 ∨ 4294967296 ≤ u then (0, 6) else (unfoldI u, 0)
def fFold (v : Int) : Int × Int := if small v then (foldI v, 0) else (0, 6)
theorem ref_unfold (u : Int) (f : Nat) : shawmref05_Unfold.f (f + 1) u = some (fUnfold u) := by
  unfold shawmref05_Unfold.f fUnfold
  by_cases h1 : u < 0
  · rw [if_pos h1, if_pos (.inl h1), shawmref05_Unfold.j0, if_pos rfl]
  rw [if_neg h1, shawmref05_Unfold.j0]
  by_cases h2 : 4294967296 ≤ u
  · rw [if_pos (decide_eq_true h2), if_pos (.inr h2)]
  rw [if_neg (fun e => h2 (of_decide_eq_true e)), if_neg (show ¬ (u < 0 ∨ 4294967296 ≤ u) by omega)]
  unfold unfoldI
  have ht : Int.tmod u 2 = u % 2 := Int.tmod_eq_emod_of_nonneg (by omega)
  rw [ht]
  by_cases h3 : u % 2 = 0
  · rw [if_pos h3, if_neg (show ¬ u % 2 = 1 by omega), Int.tdiv_eq_ediv_of_nonneg (by omega), wrap64_id (by omega) (by omega)]
  · rw [if_neg h3, if_pos (show u % 2 = 1 by omega), wrap64_id (x := u + 1) (by omega) (by omega), wrap64_id (x := -(u + 1)) (by omega) (by omega), Int.neg_tdiv, Int.tdiv_eq_ediv_of_nonneg (by omega), wrap64_id (by omega) (by omega)]
theorem ref_fold (v : Int) : shawmref05_Fold.f v = some (fFold v) := by
  unfold shawmref05_Fold.f fFold
  rw [ref_small]
  simp only [Option.bind_some]
  by_cases h : small v = true
  · rw [h, if_pos rfl, if_pos rfl, ref_folded ((small_iff v).1 h)]
    rfl
  · have h' : small v = false := by simpa using h
    rw [h']
    rfl
theorem own_unfoldF (u : Int) : rice_Unfold.f u = some (fUnfold u) := by
  unfold rice_Unfold.f fUnfold
  by_cases h1 : u < 0
  · rw [if_pos h1, if_pos (.inl h1)]
  rw [if_neg h1]
  by_cases h2 : 4294967296 ≤ u
  · rw [if_pos h2, if_pos (.inr h2)]
  rw [if_neg (by omega), if_neg (by omega), own_unfold (by omega)]
  rfl
theorem own_foldF (v : Int) : rice_Fold.f v = some (fFold v) := by
  unfold rice_Fold.f fFold
  rw [own_small]
  simp only [Option.bind_some]
  by_cases h : small v = true
  · rw [h, if_pos rfl, if_pos rfl, own_fold ((small_iff v).1 h)]
    rfl
  · have h' : small v = false := by simpa using h
    rw [h']
    rfl
theorem runfold_any {u : Int} (h : 0 ≤ u ∧ u < 4294967296) (w : World) : Calls Try.prog 15 #[.int .i64 u] w fun e w' => e = .returned (.tuple #[.int .i64 (unfoldI u), .int .i64 0]) ∧ Drawn0 w w' := by
  have e : shawmref05_Unfold.f 1 u = some (unfoldI u, 0) := by rw [ref_unfold u 0]; unfold fUnfold; rw [if_neg (by omega)]
  exact shawmref05_Unfold.calls 1 u _ _ w e

set_option maxHeartbeats 4000000 in
set_option maxRecDepth 100000 in
theorem RGet_any5 (S : Nat → Prop) (p a : Nat) (L : List Int) (k : Int) (w : World) (hR : RRd w S p L a) (h01 : is01 L) :
    Calls Try.prog 22 #[.pointer (some ⟨p, 0, none⟩), .int .i64 k] w (RRdPost w S p L (fGet L a k)) := by
  have hal := hR.at_le
  have HR := Aside0.mk hR
  have HFG : Aside0 (fGet L a k = if k < 0 ∨ 14 < k then (0, 1, a) else rRice L a k.toNat) := ⟨rfl⟩
  generalize fGet L a k = fg at *
  by_cases h1 : k < 0
  · rw [if_pos (.inl h1)] at HFG
    have d1 : decide (k < 0) = true := by simpa using h1
    clear hR h1
    go_enter Try.func22, Try.ntmps22
    go_wp2_with fail
    go_ret2
    unfold RRdPost
    rw [HFG.out]
    exact ⟨rfl, HR.out, Fr.refl _ _⟩
  have d1 : decide (k < 0) = false := by simpa using h1
  by_cases h2 : 14 < k
  · rw [if_pos (.inr h2)] at HFG
    have d2 : decide (14 < k) = true := by simpa using h2
    clear hR h1 h2
    go_enter Try.func22, Try.ntmps22
    go_wp2_with fail
    go_ret2
    unfold RRdPost
    rw [HFG.out]
    exact ⟨rfl, HR.out, Fr.refl _ _⟩
  have d2 : decide (14 < k) = false := by simpa using h2
  rw [if_neg (by omega)] at HFG
  obtain ⟨m, rfl⟩ : ∃ m : Nat, k = m := ⟨k.toNat, by omega⟩
  rw [Int.toNat_natCast] at HFG
  have hm : m ≤ 14 := by omega
  have HRR : Aside0 (rRice L a m = _) := ⟨rRice.eq_1 L a m⟩
  have HAT := Aside0.mk (RefAt_any S p a L w hR)
  have HU := Aside0.mk (RefUnary_any S p a L 24 w hR)
  have hu := @rUnary_ok L a
  have HG := Aside0.mk (fun b n W (h : RRd W S p L b) => RefGet_any S p b L n W h)
  have HSK := Aside0.mk (fun b W (h : RRd W S p L b) => RefSeek_any S p b L (a : Int) W h)
  have hsk : ∀ b, rSeek L b (a : Int) = (0, a) := fun b => by unfold rSeek; rw [if_neg (by omega), Int.toNat_natCast]
  have HUE : Aside0 ((rUnary L a 24).2.1 ≠ 0 → (rUnary L a 24).2.2 = a) := ⟨fun h => by
    have e : rUnary L a 24 = rZeros L a 24 := by unfold rUnary; rw [if_neg (by omega)]; rfl
    rw [e] at h ⊢
    rcases rZeros_cases L a 24 with (h1 | h1) | ⟨z, hz, hl, h1⟩
    · rw [h1]
    · rw [h1]
    · rw [h1] at h; exact absurd rfl h⟩
  have hg1 := fun b => @rGet_ok L b m h01
  have hg2 := fun b => @rGet_ok L b 32 h01
  have hpk : (1 : Int) ≤ 2 ^ m ∧ (2 : Int) ^ m ≤ 16384 := by
    have h1 : (2 : Nat) ^ m ≤ 2 ^ 14 := Nat.pow_le_pow_right (by omega) hm
    have h2 : 1 ≤ (2 : Nat) ^ m := Nat.one_le_two_pow
    have h3 : ((2 ^ m : Nat) : Int) = (2 : Int) ^ m := by norm_cast
    omega
  rw [HRR.out] at HFG
  clear HRR
  generalize rUnary L a 24 = u at *
  obtain ⟨q, e1, b⟩ := u
  dsimp only at HFG hu HUE
  unfold RRdPost at HU HG
  dsimp only at HU
  simp only [hsk] at HSK
  clear hR hsk h1 h2
  by_cases he1 : e1 = 0
  case neg =>
    rw [if_pos he1] at HFG
    obtain rfl := HUE.out he1
    have q1 : (e1 != 0) = true := by simpa using he1
    clear hu hg1 hg2
    go_enter Try.func22, Try.ntmps22
    go_wp2_with fail
    refine HAT.out.mono ?_
    rintro e w1 ⟨rfl, hw⟩
    obtain rfl := hw.symm
    go_wp2_with fail
    refine HU.out.mono ?_
    rintro e w1 ⟨rfl, hr, hf⟩
    have HR1 := Aside0.mk hr
    have HF1 := Aside0.mk hf
    clear hr hf
    go_wp2_with fail
    go_ret2
    unfold RRdPost
    rw [HFG.out]
    exact ⟨rfl, HR1.out, HF1.out⟩
  subst he1
  rw [if_neg (by simp)] at HFG
  obtain ⟨n, hn, rfl, hbl⟩ := hu rfl
  clear hu HUE
  by_cases hlt : n < 24
  · rw [if_pos (by omega)] at HFG
    have d3 : decide ((n : Int) < 24) = true := by simp; omega
    have d4 : ((n : Int) == 24) = false := by simp; omega
    have HGG := Aside0.mk (HG.out b (m : Int))
    have hgg := hg1 b
    generalize rGet L b (m : Int) = g at *
    obtain ⟨x, e2, c⟩ := g
    dsimp only at HFG HGG hgg
    clear hg1 hg2
    by_cases he2 : e2 = 0
    · subst he2
      rw [if_neg (by simp)] at HFG
      have hx := hgg rfl
      have hnk : 0 ≤ (n : Int) * 2 ^ m ∧ (n : Int) * 2 ^ m ≤ 393216 := by
        have h1 : n * 2 ^ m ≤ 24 * 2 ^ 14 := Nat.mul_le_mul (by omega) (Nat.pow_le_pow_right (by omega) hm)
        have h2 : ((n * 2 ^ m : Nat) : Int) = (n : Int) * 2 ^ m := by push_cast; rfl
        omega
      have HUF := Aside0.mk (fun W => runfold_any (u := x + (n : Int) * 2 ^ m) (by omega) W)
      rw [Int.add_comm] at HFG
      have s1 : wrap64 ((n : Int) * 2 ^ m) = (n : Int) * 2 ^ m := wrap64_id (by omega) (by omega)
      have hxb : 0 ≤ x ∧ x ≤ 16384 := by omega
      generalize unfoldI (x + (n : Int) * 2 ^ m) = y at *
      generalize hmm : (n : Int) * 2 ^ m = mm at *
      clear hgg hlt hx
      go_enter Try.func22, Try.ntmps22
      go_wp2_with fail
      refine HAT.out.mono ?_
      rintro e w1 ⟨rfl, hw⟩
      obtain rfl := hw.symm
      go_wp2_with fail
      refine HU.out.mono ?_
      rintro e w1 ⟨rfl, hr, hf⟩
      have HR1 := Aside0.mk hr
      have HF1 := Aside0.mk hf
      clear hr hf
      go_wp2_with fail
      refine (HGG.out _ HR1.out).mono ?_
      rintro e w2 ⟨rfl, hr, hf⟩
      have HR2 := Aside0.mk hr
      have HF2 := Aside0.mk (HF1.out.trans hf)
      clear hr hf
      go_wp2_with fail
      refine (HUF.out _).mono ?_
      rintro e w3 ⟨rfl, hd⟩
      have HD := Aside0.mk hd.below
      clear hd
      go_wp2_with fail
      go_ret2
      unfold RRdPost
      rw [HFG.out]
      exact ⟨rfl, HR2.out.below HD.out, HF2.out.trans (Fr.below HD.out _)⟩
    · rw [if_pos he2] at HFG
      have q1 : (e2 == 0) = false := by simpa using he2
      have q2 : (e2 != 0) = true := by simpa using he2
      clear hgg he2
      go_enter Try.func22, Try.ntmps22
      go_wp2_with fail
      refine HAT.out.mono ?_
      rintro e w1 ⟨rfl, hw⟩
      obtain rfl := hw.symm
      go_wp2_with fail
      refine HU.out.mono ?_
      rintro e w1 ⟨rfl, hr, hf⟩
      have HR1 := Aside0.mk hr
      have HF1 := Aside0.mk hf
      clear hr hf
      go_wp2_with fail
      refine (HGG.out _ HR1.out).mono ?_
      rintro e w2 ⟨rfl, hr, hf⟩
      have HR2 := Aside0.mk hr
      have HF2 := Aside0.mk (HF1.out.trans hf)
      clear hr hf
      go_wp2_with fail
      refine (HSK.out _ _ HR2.out).mono ?_
      rintro e w3 ⟨rfl, hr, hf⟩
      have HR3 := Aside0.mk hr
      have HF3 := Aside0.mk (HF2.out.trans hf)
      clear hr hf
      go_wp2_with fail
      go_ret2
      unfold RRdPost
      rw [HFG.out]
      exact ⟨rfl, HR3.out, HF3.out⟩
  · obtain rfl : n = 24 := by omega
    rw [if_neg (by omega)] at HFG
    have HGG := Aside0.mk (HG.out b 32)
    have hgg := hg2 b
    generalize rGet L b 32 = g at *
    obtain ⟨x, e2, c⟩ := g
    dsimp only at HFG HGG hgg
    clear hg1 hg2 hlt
    by_cases he2 : e2 = 0
    case neg =>
      rw [if_pos he2] at HFG
      have q1 : (e2 == 0) = false := by simpa using he2
      have q2 : (e2 != 0) = true := by simpa using he2
      clear hgg he2
      go_enter Try.func22, Try.ntmps22
      go_wp2_with fail
      refine HAT.out.mono ?_
      rintro e w1 ⟨rfl, hw⟩
      obtain rfl := hw.symm
      go_wp2_with fail
      refine HU.out.mono ?_
      rintro e w1 ⟨rfl, hr, hf⟩
      have HR1 := Aside0.mk hr
      have HF1 := Aside0.mk hf
      clear hr hf
      go_wp2_with fail
      refine (HGG.out _ HR1.out).mono ?_
      rintro e w2 ⟨rfl, hr, hf⟩
      have HR2 := Aside0.mk hr
      have HF2 := Aside0.mk (HF1.out.trans hf)
      clear hr hf
      go_wp2_with fail
      refine (HSK.out _ _ HR2.out).mono ?_
      rintro e w3 ⟨rfl, hr, hf⟩
      have HR3 := Aside0.mk hr
      have HF3 := Aside0.mk (HF2.out.trans hf)
      clear hr hf
      go_wp2_with fail
      go_ret2
      unfold RRdPost
      rw [HFG.out]
      exact ⟨rfl, HR3.out, HF3.out⟩
    subst he2
    rw [if_neg (by simp)] at HFG
    have hx := hgg rfl
    simp only [Int.reducePow] at hx
    have HUF := Aside0.mk (fun W => runfold_any (u := x) (by omega) W)
    clear hgg
    by_cases hs : x / 2 ^ m < 24
    · rw [if_pos hs] at HFG
      have d5 : decide (x / 2 ^ m < 24) = true := by simpa using hs
      clear hs
      go_enter Try.func22, Try.ntmps22
      go_wp2_with fail
      refine HAT.out.mono ?_
      rintro e w1 ⟨rfl, hw⟩
      obtain rfl := hw.symm
      go_wp2_with fail
      refine HU.out.mono ?_
      rintro e w1 ⟨rfl, hr, hf⟩
      have HR1 := Aside0.mk hr
      have HF1 := Aside0.mk hf
      clear hr hf
      go_wp2_with fail
      refine (HGG.out _ HR1.out).mono ?_
      rintro e w2 ⟨rfl, hr, hf⟩
      have HR2 := Aside0.mk hr
      have HF2 := Aside0.mk (HF1.out.trans hf)
      clear hr hf
      go_wp2_with fail
      refine (HSK.out _ _ HR2.out).mono ?_
      rintro e w3 ⟨rfl, hr, hf⟩
      have HR3 := Aside0.mk hr
      have HF3 := Aside0.mk (HF2.out.trans hf)
      clear hr hf
      go_wp2_with fail
      go_ret2
      unfold RRdPost
      rw [HFG.out]
      exact ⟨rfl, HR3.out, HF3.out⟩
    · rw [if_neg hs] at HFG
      have d5 : decide (x / 2 ^ m < 24) = false := by simpa using hs
      clear hs
      go_enter Try.func22, Try.ntmps22
      go_wp2_with fail
      refine HAT.out.mono ?_
      rintro e w1 ⟨rfl, hw⟩
      obtain rfl := hw.symm
      go_wp2_with fail
      refine HU.out.mono ?_
      rintro e w1 ⟨rfl, hr, hf⟩
      have HR1 := Aside0.mk hr
      have HF1 := Aside0.mk hf
      clear hr hf
      go_wp2_with fail
      refine (HGG.out _ HR1.out).mono ?_
      rintro e w2 ⟨rfl, hr, hf⟩
      have HR2 := Aside0.mk hr
      have HF2 := Aside0.mk (HF1.out.trans hf)
      clear hr hf
      go_wp2_with fail
      refine (HUF.out _).mono ?_
      rintro e w3 ⟨rfl, hd⟩
      have HD := Aside0.mk hd.below
      clear hd
      go_wp2_with fail
      go_ret2
      unfold RRdPost
      rw [HFG.out]
      exact ⟨rfl, HR2.out.below HD.out, HF2.out.trans (Fr.below HD.out _)⟩
theorem RGetNil_any (k : Int) (w : World) : Calls Try.prog 22 #[.pointer none, .int .i64 k] w fun e w' => e = .returned (.tuple #[.int .i64 0, .int .i64 1]) ∧ w' = w := by
  go_enter Try.func22, Try.ntmps22
  go_wp2_with fail
  go_ret2
  exact ⟨rfl, rfl⟩
end Go.Proofs.Ytnpheeendbchbaa.P
end
