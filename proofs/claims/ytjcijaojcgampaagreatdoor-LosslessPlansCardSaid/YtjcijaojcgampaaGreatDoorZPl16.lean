/- Words of Rice codes: the contracts of rice.get, back, Get. -/
import Derived.Defers
import Derived.RegionTactic
import Derived.Test.YtjcijaojcgampaaGreatDoorZPl15
import Derived.Test.YtjcijaojcgampaaGreatDoorZPl13
set_option linter.unusedVariables false
set_option linter.unusedSimpArgs false
set_option maxHeartbeats 16000000
set_option maxRecDepth 100000
section
namespace Go.Proofs.YtjcijaojcgampaaGreatDoor.P
open Go.RowKit Go.Shelf Go.Proofs.YtjcijaojcgampaaGreatDoor.Bits Go.Proofs.YtjcijaojcgampaaGreatDoorW.PrintWords Go.Proofs.YtjcijaojcgampaaGreatDoorW.PrintLast Go.Proofs.YtjcijaojcgampaaGreatDoorW.PrintMore
attribute [local go_sem ↓] Go.wp_at_zero Go.wp_at_succ
def rRice (L : List Int) (a k : Nat) : Int × Int × Nat :=
  if (rUnary L a 24).2.1 ≠ 0 then (0, (rUnary L a 24).2.1, a)
  else if (rUnary L a 24).1 < 24 then
    if (rGet L (rUnary L a 24).2.2 (k : Int)).2.1 ≠ 0 then (0, (rGet L (rUnary L a 24).2.2 (k : Int)).2.1, a)
    else (unfoldI ((rUnary L a 24).1 * 2 ^ k + (rGet L (rUnary L a 24).2.2 (k : Int)).1), 0, (rGet L (rUnary L a 24).2.2 (k : Int)).2.2)
  else if (rGet L (rUnary L a 24).2.2 32).2.1 ≠ 0 then (0, (rGet L (rUnary L a 24).2.2 32).2.1, a)
  else if (rGet L (rUnary L a 24).2.2 32).1 / 2 ^ k < 24 then (0, 4, a)
  else (unfoldI (rGet L (rUnary L a 24).2.2 32).1, 0, (rGet L (rUnary L a 24).2.2 32).2.2)
theorem rUnary_ok {L : List Int} {a : Nat} (h : (rUnary L a 24).2.1 = 0) : ∃ z : Nat, z ≤ 24 ∧ (rUnary L a 24).1 = z ∧ (rUnary L a 24).2.2 ≤ L.length := by
  have e : rUnary L a 24 = rZeros L a 24 := by unfold rUnary; rw [if_neg (by omega)]; rfl
  rw [e] at h ⊢
  rcases rZeros_cases L a 24 with (h1 | h1) | ⟨z, hz, hl, h1⟩
  · rw [h1] at h; cases h
  · rw [h1] at h; cases h
  · rw [h1]; exact ⟨z, hz, rfl, by dsimp only; omega⟩
theorem rGet_ok {L : List Int} {b n : Nat} (h01 : is01 L) (h : (rGet L b (n : Int)).2.1 = 0) : 0 ≤ (rGet L b (n : Int)).1 ∧ (rGet L b (n : Int)).1 < 2 ^ n := by
  unfold rGet at *
  split at h
  · cases h
  · split at h
    · cases h
    · rename_i h1 h2
      rw [if_neg h1, if_neg h2, Int.toNat_natCast]
      have hb := val_bound (is01_take (is01_drop h01 b) n)
      have hl : ((L.drop b).take n).length ≤ n := by rw [List.length_take]; omega
      refine ⟨hb.1, Int.lt_of_lt_of_le hb.2 ?_⟩
      exact_mod_cast Nat.pow_le_pow_right (by omega) hl
theorem rGet_err {L : List Int} {b : Nat} {n : Int} (h : (rGet L b n).2.1 ≠ 0) : (rGet L b n).1 = 0 := by
  unfold rGet at *
  split at h
  · rename_i h1; rw [if_pos h1]
  · split at h
    · rename_i h1 h2; rw [if_neg h1, if_pos h2]
    · exact absurd rfl h
theorem or_mul (q k : Nat) (x : Int) (hq : q < 24) (hk : k ≤ 14) (h0 : 0 ≤ x) (h1 : x < 2 ^ k) : Go.bits BinOp.or IntKind.i64 ((q : Int) * 2 ^ k) x = (q : Int) * 2 ^ k + x := by
  obtain ⟨y, rfl⟩ : ∃ y : Nat, x = y := ⟨x.toNat, by omega⟩
  have h2 : y < 2 ^ k := by exact_mod_cast h1
  have h3 : 2 ^ k ≤ 2 ^ 14 := Nat.pow_le_pow_right (by omega) hk
  have h4 : q * 2 ^ k ≤ 24 * 2 ^ k := Nat.mul_le_mul_right _ (by omega)
  have e : (q : Int) * 2 ^ k = ((q * 2 ^ k : Nat) : Int) := by push_cast; rfl
  rw [e, or_i64 _ _ (by omega) (by omega), Nat.mul_comm q, ← Nat.two_pow_add_eq_or_of_lt h2 q]
  push_cast
  rfl
def GetPost (w : World) (S : Nat → Prop) (p : Nat) (L : List Int) (r : Int × Int × Nat) (e : Ending) (w' : World) : Prop :=
  ∃ v a', e = .returned (.tuple #[.int .i64 v, .int .i64 r.2.1]) ∧ (r.2.1 = 0 → v = r.1 ∧ a' = r.2.2) ∧ Rd w' S p L a' ∧ Fr (fun k => k = p) w w'
theorem get_any5 (S : Nat → Prop) (p a k : Nat) (L : List Int) (w : World) (hR : Rd w S p L a) (hk : k ≤ 14) :
    Calls Tryz.prog 189 #[.pointer (some ⟨p, 0, none⟩), .int .i64 (k : Int)] w (GetPost w S p L (rRice L a k)) := by
  have h01 := hR.bits
  have HRR : Aside0 (rRice L a k = _) := ⟨rRice.eq_1 L a k⟩
  have HU := Aside0.mk (RUnary_any S p a L 24 w hR)
  have hu := @rUnary_ok L a
  have HG := Aside0.mk (fun b n W (h : Rd W S p L b) => Get_any S p b L n W h)
  have hg1 := fun b => @rGet_ok L b k h01
  have hg2 := fun b => @rGet_ok L b 32 h01
  have hpk : (1 : Int) ≤ 2 ^ k ∧ (2 : Int) ^ k ≤ 16384 := by
    have h1 : (2 : Nat) ^ k ≤ 2 ^ 14 := Nat.pow_le_pow_right (by omega) hk
    have h2 : 1 ≤ (2 : Nat) ^ k := Nat.one_le_two_pow
    have h3 : ((2 ^ k : Nat) : Int) = (2 : Int) ^ k := by norm_cast
    omega
  generalize rRice L a k = rr at *
  generalize rUnary L a 24 = u at *
  obtain ⟨q, e1, b⟩ := u
  dsimp only at HRR hu
  unfold RdPost at HU HG
  dsimp only at HU
  clear hR
  by_cases he1 : e1 = 0
  case neg =>
    rw [if_pos he1] at HRR
    have q1 : (e1 != 0) = true := by simpa using he1
    clear hu hg1 hg2
    go_enter Tryz.func189, Tryz.ntmps189
    go_wp2_with fail
    refine HU.out.mono ?_
    rintro e w1 ⟨rfl, hr, hf⟩
    have HR1 := Aside0.mk hr
    have HF1 := Aside0.mk hf
    clear hr hf
    go_wp2_with fail
    go_ret2
    unfold GetPost
    rw [HRR.out]
    exact ⟨_, b, rfl, fun h => absurd h he1, HR1.out, HF1.out⟩
  subst he1
  rw [if_neg (by simp)] at HRR
  obtain ⟨n, hn, rfl, hbl⟩ := hu rfl
  clear hu
  have qe : ((0 : Int) != 0) = false := by decide
  by_cases hlt : n < 24
  · rw [if_pos (by omega)] at HRR
    have d1 : decide ((n : Int) < 24) = true := by simp; omega
    have HGG := Aside0.mk (HG.out b (k : Int))
    have hgg := hg1 b
    have hge := @rGet_err L b (k : Int)
    generalize rGet L b (k : Int) = g at *
    obtain ⟨x, e2, c⟩ := g
    dsimp only at HRR HGG hgg hge
    clear hg1 hg2
    by_cases he2 : e2 = 0
    · subst he2
      rw [if_neg (by simp)] at HRR
      have hx := hgg rfl
      have HOR := or_mul n k x hlt hk hx.1 hx.2
      have hnk : 0 ≤ (n : Int) * 2 ^ k ∧ (n : Int) * 2 ^ k ≤ 393216 := by
        have h1 : n * 2 ^ k ≤ 24 * 2 ^ 14 := Nat.mul_le_mul (by omega) (Nat.pow_le_pow_right (by omega) hk)
        have h2 : ((n * 2 ^ k : Nat) : Int) = (n : Int) * 2 ^ k := by push_cast; rfl
        omega
      have HUF := Aside0.mk (fun W => unfold_any (u := (n : Int) * 2 ^ k + x) (by omega) W)
      have s1 : wrap64 ((n : Int) * 2 ^ k) = (n : Int) * 2 ^ k := wrap64_id (by omega) (by omega)
      generalize unfoldI ((n : Int) * 2 ^ k + x) = y at *
      generalize hm : (n : Int) * 2 ^ k = m at *
      clear hgg hlt hx hnk hge
      go_enter Tryz.func189, Tryz.ntmps189
      go_wp2_with fail
      refine HU.out.mono ?_
      rintro e w1 ⟨rfl, hr, hf⟩
      have HR1 := Aside0.mk hr
      have HF1 := Aside0.mk hf
      clear hr hf
      go_wp2_with fail
      refine (HGG.out _ HR1.out).mono ?_
      rintro e w2 ⟨rfl, hr, hf⟩
      have HR2 := Aside0.mk hr
      have HF2 := Aside0.mk (HF1.out.trans hf)
      clear hr hf
      go_wp2_with fail
      refine (HUF.out _).mono ?_
      rintro e w3 ⟨rfl, hd⟩
      have HD := Aside0.mk hd.below
      clear hd
      go_wp2_with fail
      go_ret2
      unfold GetPost
      rw [HRR.out]
      exact ⟨_, c, rfl, fun _ => ⟨rfl, rfl⟩, HR2.out.below HD.out, HF2.out.trans (Fr.below HD.out _)⟩
    · rw [if_pos he2] at HRR
      obtain rfl := hge he2
      have hx : (0 : Int) ≤ 0 ∧ (0 : Int) < 2 ^ k := ⟨by omega, by omega⟩
      have HOR := or_mul n k 0 hlt hk hx.1 hx.2
      rw [Int.add_zero] at HOR
      have hnk : 0 ≤ (n : Int) * 2 ^ k ∧ (n : Int) * 2 ^ k ≤ 393216 := by
        have h1 : n * 2 ^ k ≤ 24 * 2 ^ 14 := Nat.mul_le_mul (by omega) (Nat.pow_le_pow_right (by omega) hk)
        have h2 : ((n * 2 ^ k : Nat) : Int) = (n : Int) * 2 ^ k := by push_cast; rfl
        omega
      have HUF := Aside0.mk (fun W => unfold_any (u := (n : Int) * 2 ^ k) (by omega) W)
      have s1 : wrap64 ((n : Int) * 2 ^ k) = (n : Int) * 2 ^ k := wrap64_id (by omega) (by omega)
      generalize unfoldI ((n : Int) * 2 ^ k) = y at *
      generalize hm : (n : Int) * 2 ^ k = m at *
      have HE2 := Aside0.mk he2
      clear hgg hlt hx hnk he2 hge
      go_enter Tryz.func189, Tryz.ntmps189
      go_wp2_with fail
      refine HU.out.mono ?_
      rintro e w1 ⟨rfl, hr, hf⟩
      have HR1 := Aside0.mk hr
      have HF1 := Aside0.mk hf
      clear hr hf
      go_wp2_with fail
      refine (HGG.out _ HR1.out).mono ?_
      rintro e w2 ⟨rfl, hr, hf⟩
      have HR2 := Aside0.mk hr
      have HF2 := Aside0.mk (HF1.out.trans hf)
      clear hr hf
      go_wp2_with fail
      refine (HUF.out _).mono ?_
      rintro e w3 ⟨rfl, hd⟩
      have HD := Aside0.mk hd.below
      clear hd
      go_wp2_with fail
      go_ret2
      unfold GetPost
      rw [HRR.out]
      exact ⟨_, c, rfl, fun h => absurd h HE2.out, HR2.out.below HD.out, HF2.out.trans (Fr.below HD.out _)⟩
  · obtain rfl : n = 24 := by omega
    rw [if_neg (by omega)] at HRR
    have HGG := Aside0.mk (HG.out b 32)
    have hgg := hg2 b
    generalize rGet L b 32 = g at *
    obtain ⟨x, e2, c⟩ := g
    dsimp only at HRR HGG hgg
    clear hg1 hg2 hlt
    by_cases he2 : e2 = 0
    case neg =>
      rw [if_pos he2] at HRR
      have q1 : (e2 != 0) = true := by simpa using he2
      have HE2 := Aside0.mk he2
      clear hgg he2
      go_enter Tryz.func189, Tryz.ntmps189
      go_wp2_with fail
      refine HU.out.mono ?_
      rintro e w1 ⟨rfl, hr, hf⟩
      have HR1 := Aside0.mk hr
      have HF1 := Aside0.mk hf
      clear hr hf
      go_wp2_with fail
      refine (HGG.out _ HR1.out).mono ?_
      rintro e w2 ⟨rfl, hr, hf⟩
      have HR2 := Aside0.mk hr
      have HF2 := Aside0.mk (HF1.out.trans hf)
      clear hr hf
      go_wp2_with fail
      go_ret2
      unfold GetPost
      rw [HRR.out]
      exact ⟨_, c, rfl, fun h => absurd h HE2.out, HR2.out, HF2.out⟩
    subst he2
    rw [if_neg (by simp)] at HRR
    have hx := hgg rfl
    simp only [Int.reducePow] at hx
    have HUF := Aside0.mk (fun W => unfold_any (u := x) (by omega) W)
    clear hgg
    by_cases hs : x / 2 ^ k < 24
    · rw [if_pos hs] at HRR
      have d2 : decide (x / 2 ^ k < 24) = true := by simpa using hs
      clear hs
      go_enter Tryz.func189, Tryz.ntmps189
      go_wp2_with fail
      refine HU.out.mono ?_
      rintro e w1 ⟨rfl, hr, hf⟩
      have HR1 := Aside0.mk hr
      have HF1 := Aside0.mk hf
      clear hr hf
      go_wp2_with fail
      refine (HGG.out _ HR1.out).mono ?_
      rintro e w2 ⟨rfl, hr, hf⟩
      have HR2 := Aside0.mk hr
      have HF2 := Aside0.mk (HF1.out.trans hf)
      clear hr hf
      go_wp2_with fail
      go_ret2
      unfold GetPost
      rw [HRR.out]
      exact ⟨_, c, rfl, fun h => absurd h (by simp), HR2.out, HF2.out⟩
    · rw [if_neg hs] at HRR
      have d2 : decide (x / 2 ^ k < 24) = false := by simpa using hs
      clear hs
      go_enter Tryz.func189, Tryz.ntmps189
      go_wp2_with fail
      refine HU.out.mono ?_
      rintro e w1 ⟨rfl, hr, hf⟩
      have HR1 := Aside0.mk hr
      have HF1 := Aside0.mk hf
      clear hr hf
      go_wp2_with fail
      refine (HGG.out _ HR1.out).mono ?_
      rintro e w2 ⟨rfl, hr, hf⟩
      have HR2 := Aside0.mk hr
      have HF2 := Aside0.mk (HF1.out.trans hf)
      clear hr hf
      go_wp2_with fail
      refine (HUF.out _).mono ?_
      rintro e w3 ⟨rfl, hd⟩
      have HD := Aside0.mk hd.below
      clear hd
      go_wp2_with fail
      go_ret2
      unfold GetPost
      rw [HRR.out]
      exact ⟨_, c, rfl, fun _ => ⟨rfl, rfl⟩, HR2.out.below HD.out, HF2.out.trans (Fr.below HD.out _)⟩
def BackPost (S : Nat → Prop) (p at_ : Nat) (L : List Int) (er : Int) (w w' : World) : Prop := if er = 0 then w' = w else Rd w' S p L at_ ∧ Fr (fun k => k = p) w w'
theorem back_any (S : Nat → Prop) (p a at_ : Nat) (L : List Int) (ea : Addr) (er : Int) (u : FrameMode) (w : World) (hR : Rd w S p L a) (hat : at_ ≤ L.length) (hc : w.cell? ea = some (.int .i64 er)) :
    CallsD Tryz.prog 188 #[.pointer (some ⟨p, 0, none⟩), .int .i64 (at_ : Int), .pointer (some ea)] u w fun e u' w' => u' = u ∧ (e = .returned (.tuple #[]) ∧ BackPost S p at_ L er w w') := by
  refine callsD_of_wp Tryz.func188 rfl ?_
  simp only [Tryz.ntmps188, List.size_toArray, List.length_cons, List.length_nil, Nat.reduceAdd, Nat.reduceSub, Array.replicate_succ, Array.replicate_zero, List.push_toArray, List.append_toArray, List.nil_append, List.cons_append]
  have hsk := Seek_any S p a L (at_ : Int) w hR
  rw [show rSeek L a (at_ : Int) = (0, at_) by unfold rSeek; rw [if_neg (by omega), Int.toNat_natCast]] at hsk
  have HSK := Aside0.mk hsk
  clear hsk hR
  by_cases he : er = 0
  · subst he
    go_wp2_with fail
    (try simp only [Exit.inBlock, Exit.then])
    first | refine bodyPost_ret (results_none rfl _ _ _) rfl ?_ | refine bodyPost_end (results_none rfl _ _ _) rfl ?_
    exact ⟨rfl, by unfold BackPost; rw [if_pos rfl]⟩
  · have q1 : (er != 0) = true := by simpa using he
    have HE := Aside0.mk he
    clear he
    go_wp2_with fail
    refine HSK.out.mono ?_
    rintro e w1 ⟨rfl, hr, hf⟩
    have HR1 := Aside0.mk hr
    have HF1 := Aside0.mk hf
    clear hr hf
    go_wp2_with fail
    (try simp only [Exit.inBlock, Exit.then])
    first | refine bodyPost_ret (results_none rfl _ _ _) rfl ?_ | refine bodyPost_end (results_none rfl _ _ _) rfl ?_
    exact ⟨rfl, by unfold BackPost; rw [if_neg HE.out]; exact ⟨HR1.out, HF1.out⟩⟩
theorem run_loadVar_int {P : Program} (w : World) (a : Addr) (ty : TypeId) (k : IntKind) (n : Int) (hu : P.underlying ty = some (.int k)) (hc : w.cell? a = some (.int k n)) : (loadVar ty a).run P w = .ok (.int k n) w := by
  simp [loadVar, isAgg, run_underlying hu, go_sem, hc]
theorem results_tc {P : Program} {fn : Func} {u q : Tmp} {ty2 : TypeId} (h : fn.results = #[.tmp u, .cell q ty2]) (tmps : Array Value) (w : World)
    (a : Addr) (k : IntKind) (n : Int) (hq : tmps.getD q undef = .pointer (some a)) (hc : w.cell? a = some (.int k n)) (hu2 : P.underlying ty2 = some (.int k)) :
    (results fn tmps).run P w = .ok (.tuple #[tmps.getD u undef, .int k n]) w := by
  have hq' : tmps[q]?.getD undef = .pointer (some a) := by simpa using hq
  simp [results, h, hq', asAddr, run_loadVar_int w a ty2 k n hu2 hc]
abbrev errBox (x : Int) : Obj := .cells #[.int .i64 x] 24 (0, 0)
end Go.Proofs.YtjcijaojcgampaaGreatDoor.P
end
