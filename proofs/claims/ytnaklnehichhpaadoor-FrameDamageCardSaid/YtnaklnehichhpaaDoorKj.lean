/- The contract of frame.Read. -/
import Derived.Test.YtnaklnehichhpaaDoorKi
namespace Go.Proofs.YtnaklnehichhpaaDoor.P
open Go.RowKit Go.Shelf Go.Proofs.YtnaklnehichhpaaDoor.Bits Go.Proofs.YtnaklnehichhpaaDoorW.PrintWords Go.Proofs.YtnaklnehichhpaaDoorW.PrintLast Go.Proofs.YtnaklnehichhpaaDoorW.PrintMore
set_option linter.unusedVariables false
set_option linter.unusedSimpArgs false
attribute [local go_sem ↓] Go.wp_at_zero Go.wp_at_succ

theorem alloc2_old (w : World) (o1 o2 : Obj) : ((w.alloc o1).alloc o2).heap[w.heap.size]? = some o1 := by
  rw [Below.heap_alloc _ _ _ (lt_of_block (World.alloc_heap_new w o1))]; exact World.alloc_heap_new w o1
theorem alloc2_new (w : World) (o1 o2 : Obj) : ((w.alloc o1).alloc o2).heap[w.heap.size + 1]? = some o2 := by
  have := World.alloc_heap_new (w.alloc o1) o2
  simpa using this
theorem run_loadVar_int {P : Program} (w : World) (a : Addr) (ty : TypeId) (k : IntKind) (n : Int) (hu : P.underlying ty = some (.int k)) (hc : w.cell? a = some (.int k n)) : (loadVar ty a).run P w = .ok (.int k n) w := by
  simp [loadVar, isAgg, run_underlying hu, go_sem, hc]
theorem results_cti {P : Program} {fn : Func} {p u q : Tmp} {ty ty2 : TypeId} (h : fn.results = #[.cell p ty, .tmp u, .cell q ty2]) (tmps : Array Value) (w : World) (g : Nat) (t : TypeId) (cs : Array Value) (fr : Nat × Nat) (d : TypeDesc)
    (hp : tmps.getD p undef = .pointer (some ⟨g, 0, none⟩)) (hg : w.heap[g]? = some (.cells cs t fr))
    (hu : P.underlying ty = some d) (hd : (match d with | .struct _ | .array _ _ => true | _ => false) = true) (hi : (P.info? ty).map (·.size) = some cs.size)
    (a : Addr) (k : IntKind) (n : Int) (hq : tmps.getD q undef = .pointer (some a)) (hc : w.cell? a = some (.int k n)) (hu2 : P.underlying ty2 = some (.int k)) :
    (results fn tmps).run P w = .ok (.tuple #[.agg cs, tmps.getD u undef, .int k n]) w := by
  have hp' : tmps[p]?.getD undef = .pointer (some ⟨g, 0, none⟩) := by simpa using hp
  have hq' : tmps[q]?.getD undef = .pointer (some a) := by simpa using hq
  simp [results, h, hp', hq', asAddr, run_loadVar_row w g t ty cs fr d hg hu hd hi, run_loadVar_int w a ty2 k n hu2 hc]
theorem fReadB_err (B : List Int) (h : (fReadB B).2.2 ≠ 0) : fReadB B = (HD0, [], (fReadB B).2.2) := by
  unfold fReadB at *
  repeat' split
  all_goals first | rfl | skip
  simp_all
/-- What Read gives. -/
def ReadPost (w : World) (B : List Int) (at_ : Int) (e : Ending) (w' : World) : Prop :=
  ∃ v S', e = .returned (.tuple #[(fRead B at_).1.val, v, .int .i64 (fRead B at_).2.2]) ∧ RB S' w' v (fRead B at_).2.1 ∧ (∀ k, S' k → w.heap.size ≤ k) ∧ Below w.heap.size w w'

set_option maxHeartbeats 8000000 in
set_option maxRecDepth 100000 in
theorem Read_any (A : Option Addr) (c : Nat) (B : List Int) (at_ : Int) (w : World) (hC : Kd.C (Kd.int .u8) w A B.length B) (h8 : is8 B) (hBl : B.length ≤ 1000000000) (hc : B.length ≤ c) (hg : HG w) :
    Calls Tryd.prog 16 #[.slice A B.length c, .int .i64 at_] w (ReadPost w B at_) := by
  have HC := Aside0.mk hC
  have H8 := Aside0.mk h8
  have HGW := Aside0.mk hg
  have hk4 : ((w.alloc (.cells #[.int .i64 0, .bool false, .int .i64 0, .int .i64 0, .int .i64 0, .int .i64 0, .int .i64 0] 23)).alloc (.cells #[.int .i64 0] 26)).heap[w.heap.size]? = some (.cells #[.int .i64 0, .bool false, .int .i64 0, .int .i64 0, .int .i64 0, .int .i64 0, .int .i64 0] 23 (0, 0)) := alloc2_old w _ _
  have hk6 : ((w.alloc (.cells #[.int .i64 0, .bool false, .int .i64 0, .int .i64 0, .int .i64 0, .int .i64 0, .int .i64 0] 23)).alloc (.cells #[.int .i64 0] 26)).heap[w.heap.size + 1]? = some (.cells #[.int .i64 0] 26 (0, 0)) := alloc2_new w _ _
  have hb0 : Below w.heap.size w ((w.alloc (.cells #[.int .i64 0, .bool false, .int .i64 0, .int .i64 0, .int .i64 0, .int .i64 0, .int .i64 0] 23)).alloc (.cells #[.int .i64 0] 26)) := below_alloc (below_alloc (Below.refl _ _) _) _
  clear hC h8 hg
  by_cases hr : at_ < 0 ∨ (B.length : Int) < at_
  · have HN : Aside0 (fRead B at_ = (HD0, [], 6)) := ⟨by unfold fRead; rw [if_pos hr]⟩
    have HK4 := Aside0.mk hk4
    have hk4r : (((w.alloc (.cells #[.int .i64 0, .bool false, .int .i64 0, .int .i64 0, .int .i64 0, .int .i64 0, .int .i64 0] 23)).alloc (.cells #[.int .i64 0] 26)).setRow w.heap.size #[.int .i64 0, .bool false, .int .i64 0, .int .i64 0, .int .i64 0, .int .i64 0, .int .i64 0]).heap[w.heap.size]? = some (.cells #[.int .i64 0, .bool false, .int .i64 0, .int .i64 0, .int .i64 0, .int .i64 0, .int .i64 0] 23 (0, 0)) := setRow_heap _ _ _ _ _ _ hk4
    have hk6r : (((w.alloc (.cells #[.int .i64 0, .bool false, .int .i64 0, .int .i64 0, .int .i64 0, .int .i64 0, .int .i64 0] 23)).alloc (.cells #[.int .i64 0] 26)).setRow w.heap.size #[.int .i64 0, .bool false, .int .i64 0, .int .i64 0, .int .i64 0, .int .i64 0, .int .i64 0]).heap[w.heap.size + 1]? = some (.cells #[.int .i64 0] 26 (0, 0)) := (setRow_other _ _ _ _ (by omega)).trans hk6
    have c60 : (((w.alloc (.cells #[.int .i64 0, .bool false, .int .i64 0, .int .i64 0, .int .i64 0, .int .i64 0, .int .i64 0] 23)).alloc (.cells #[.int .i64 0] 26)).setRow w.heap.size #[.int .i64 0, .bool false, .int .i64 0, .int .i64 0, .int .i64 0, .int .i64 0, .int .i64 0]).cell? ⟨w.heap.size + 1, 0, none⟩ = some (.int .i64 0) := by rw [cell_of_row _ _ _ _ _ _ hk6r]; rfl
    have f60 : (((w.alloc (.cells #[.int .i64 0, .bool false, .int .i64 0, .int .i64 0, .int .i64 0, .int .i64 0, .int .i64 0] 23)).alloc (.cells #[.int .i64 0] 26)).setRow w.heap.size #[.int .i64 0, .bool false, .int .i64 0, .int .i64 0, .int .i64 0, .int .i64 0, .int .i64 0]).frozen? ⟨w.heap.size + 1, 0, none⟩ = false := blk_frozen hk6r 0
    have HK4F : Aside0 (((((w.alloc (.cells #[.int .i64 0, .bool false, .int .i64 0, .int .i64 0, .int .i64 0, .int .i64 0, .int .i64 0] 23)).alloc (.cells #[.int .i64 0] 26)).setRow w.heap.size #[.int .i64 0, .bool false, .int .i64 0, .int .i64 0, .int .i64 0, .int .i64 0, .int .i64 0]).setCell ⟨w.heap.size + 1, 0, none⟩ (.int .i64 6)).heap[w.heap.size]? = some (.cells #[.int .i64 0, .bool false, .int .i64 0, .int .i64 0, .int .i64 0, .int .i64 0, .int .i64 0] 23 (0, 0))) := ⟨by rw [heap_setCell_other _ _ _ _ (show w.heap.size ≠ w.heap.size + 1 by omega)]; exact hk4r⟩
    have HK6F : Aside0 (((((w.alloc (.cells #[.int .i64 0, .bool false, .int .i64 0, .int .i64 0, .int .i64 0, .int .i64 0, .int .i64 0] 23)).alloc (.cells #[.int .i64 0] 26)).setRow w.heap.size #[.int .i64 0, .bool false, .int .i64 0, .int .i64 0, .int .i64 0, .int .i64 0, .int .i64 0]).setCell ⟨w.heap.size + 1, 0, none⟩ (.int .i64 6)).heap[w.heap.size + 1]? = some (.cells #[.int .i64 6] 26 (0, 0))) := ⟨by rw [heap_setCell_same _ _ _ _ _ _ hk6r]; rfl⟩
    have HB : Aside0 (Below w.heap.size w ((((w.alloc (.cells #[.int .i64 0, .bool false, .int .i64 0, .int .i64 0, .int .i64 0, .int .i64 0, .int .i64 0] 23)).alloc (.cells #[.int .i64 0] 26)).setRow w.heap.size #[.int .i64 0, .bool false, .int .i64 0, .int .i64 0, .int .i64 0, .int .i64 0, .int .i64 0]).setCell ⟨w.heap.size + 1, 0, none⟩ (.int .i64 6))) := ⟨(hb0.trans ((fr_setRow' _ _ _).to_below hb0.size (fun j hj => by omega))).trans ((Fr.setCell (S := fun k => k = w.heap.size + 1) (Fr.refl _ _) (p := ⟨w.heap.size + 1, 0, none⟩) (fun _ => rfl) _).to_below (by simp; omega) (fun j hj => by omega))⟩
    clear hk4 hk6 hk4r hk6r hb0
    rcases hr with h1 | h1
    · have d1 : decide (at_ < 0) = true := by simpa using h1
      go_enter_defers Tryd.func16, Tryd.ntmps16
      go_wp2_with (refine wpList_store_row rfl _ _ _ rfl w.heap.size #[.int .i64 0, .bool false, .int .i64 0, .int .i64 0, .int .i64 0, .int .i64 0, .int .i64 0] rfl rfl _ _ HK4.out (by kernel_rfl) rfl (by kernel_rfl) ?_)
      refine ⟨_, results_cti rfl _ _ w.heap.size _ _ _ _ rfl HK4F.out Tryd.underlying23 rfl (by kernel_rfl) ⟨w.heap.size + 1, 0, none⟩ .i64 6 rfl (cell_of_one HK6F.out) Tryd.underlying26, ?_⟩
      unfold ReadPost
      rw [HN.out]
      exact ⟨_, fun _ => False, rfl, Kd.R_nil _ _ _ _ _, fun _ h => h.elim, HB.out⟩
    · have d1 : decide (at_ < 0) = false := by simp; omega
      have d2 : decide ((B.length : Int) < at_) = true := by simpa using h1
      go_enter_defers Tryd.func16, Tryd.ntmps16
      go_wp2_with (refine wpList_store_row rfl _ _ _ rfl w.heap.size #[.int .i64 0, .bool false, .int .i64 0, .int .i64 0, .int .i64 0, .int .i64 0, .int .i64 0] rfl rfl _ _ HK4.out (by kernel_rfl) rfl (by kernel_rfl) ?_)
      refine ⟨_, results_cti rfl _ _ w.heap.size _ _ _ _ rfl HK4F.out Tryd.underlying23 rfl (by kernel_rfl) ⟨w.heap.size + 1, 0, none⟩ .i64 6 rfl (cell_of_one HK6F.out) Tryd.underlying26, ?_⟩
      unfold ReadPost
      rw [HN.out]
      exact ⟨_, fun _ => False, rfl, Kd.R_nil _ _ _ _ _, fun _ h => h.elim, HB.out⟩
  obtain ⟨n, rfl⟩ : ∃ n : Nat, at_ = (n : Int) := ⟨at_.toNat, by omega⟩
  have hn : n ≤ B.length := by omega
  have d1 : decide ((n : Int) < 0) = false := by simp
  have d2 : decide ((B.length : Int) < (n : Int)) = false := by simp; omega
  have HFR : Aside0 (fRead B (n : Int) = fReadB (B.drop n)) := ⟨by unfold fRead; rw [if_neg hr, Int.toNat_natCast]⟩
  obtain ⟨A', hA'⟩ : ∃ A', A' = (if c = n then A else A.map (·.add (n * 1))) := ⟨_, rfl⟩
  have hsl : ∀ W : World, (Instr.slice 24 (.slice A B.length c) (some (.int .i64 (n : Int))) none none).run Tryd.prog W = .ok (.slice A' (B.length - n) (c - n)) W := by
    intro W
    have := cut_from (P := Tryd.prog) 24 5 .i64 Tryd.underlying24 (i := _) rfl 1 rfl A B.length c (n : Int) (by omega) (by omega) W
    rw [Int.toNat_natCast, ← hA'] at this
    exact this
  have hCd := Kd.C_drop HC.out hn hc
  have hlb : (B.drop n).length = B.length - n := List.length_drop
  have hCd2 : Kd.C (Kd.int .u8) w A' (B.drop n).length (B.drop n) := by rw [hA']; exact hCd
  have hread := read_any A' (c - n) (B.drop n) ((w.alloc (.cells #[.int .i64 0, .bool false, .int .i64 0, .int .i64 0, .int .i64 0, .int .i64 0, .int .i64 0] 23)).alloc (.cells #[.int .i64 0] 26)) (Kd.C_below hCd2 hb0) (fun b hb => H8.out b (List.mem_of_mem_drop hb)) (by omega) (by omega) (HGW.out.below hb0)
  rw [hlb] at hread
  generalize B.drop n = B' at *
  have HB0 := Aside0.mk hb0
  have HK4 := Aside0.mk hk4
  have HK6 := Aside0.mk hk6
  clear hr hA' hCd hCd2 hk4 hk6 hb0 hlb
  by_cases he : (fReadB B').2.2 = 0
  · have HRE : Aside0 (Calls Tryd.prog 37 #[.slice A' (B.length - n) (c - n)] ((w.alloc (.cells #[.int .i64 0, .bool false, .int .i64 0, .int .i64 0, .int .i64 0, .int .i64 0, .int .i64 0] 23)).alloc (.cells #[.int .i64 0] 26)) fun e w' => ∃ v S', e = .returned (.tuple #[(fReadB B').1.val, v]) ∧ RB S' w' v (fReadB B').2.1 ∧ (∀ k, S' k → ((w.alloc (.cells #[.int .i64 0, .bool false, .int .i64 0, .int .i64 0, .int .i64 0, .int .i64 0, .int .i64 0] 23)).alloc (.cells #[.int .i64 0] 26)).heap.size ≤ k) ∧ Below ((w.alloc (.cells #[.int .i64 0, .bool false, .int .i64 0, .int .i64 0, .int .i64 0, .int .i64 0, .int .i64 0] 23)).alloc (.cells #[.int .i64 0] 26)).heap.size ((w.alloc (.cells #[.int .i64 0, .bool false, .int .i64 0, .int .i64 0, .int .i64 0, .int .i64 0, .int .i64 0] 23)).alloc (.cells #[.int .i64 0] 26)) w') := ⟨hread.mono fun e w' q => by
      unfold RdBPost at q
      obtain ⟨q1, q2⟩ := q
      rw [if_pos he] at q2
      obtain ⟨v, S', a1, a2, a3⟩ := q2
      exact ⟨v, S', a1, a2, a3, q1⟩⟩
    have HER := Aside0.mk he
    generalize hRR : fReadB B' = RR at *
    obtain ⟨hd, body, er⟩ := RR
    dsimp only at HRE HER
    obtain ⟨num, lossy, rate, ch, kind, count, back⟩ := hd
    unfold HD.val at HRE
    dsimp only at HRE
    have hmf : True := trivial
    clear hread he hRR
    go_enter_defers Tryd.func16, Tryd.ntmps16
    go_wp2_with fail
    refine HRE.out.mono ?_
    rintro e w1 ⟨v, S', rfl, hrb, hfrom, hb⟩
    have hk41 := blk_fr HK4.out (Fr.below hb (fun _ => False)) (fun h => h)
    have hk61 := blk_fr HK6.out (Fr.below hb (fun _ => False)) (fun h => h)
    have hb1 := HB0.out.trans (hb.mono HB0.out.size)
    have hk42 : (w1.setRow w.heap.size #[.int .i64 num, .bool lossy, .int .i64 rate, .int .i64 ch, .int .i64 kind, .int .i64 count, .int .i64 back]).heap[w.heap.size]? = some (.cells #[.int .i64 num, .bool lossy, .int .i64 rate, .int .i64 ch, .int .i64 kind, .int .i64 count, .int .i64 back] 23 (0, 0)) := setRow_heap _ _ _ _ _ _ hk41
    have hk43 : ((w1.setRow w.heap.size #[.int .i64 num, .bool lossy, .int .i64 rate, .int .i64 ch, .int .i64 kind, .int .i64 count, .int .i64 back]).setRow w.heap.size #[.int .i64 num, .bool lossy, .int .i64 rate, .int .i64 ch, .int .i64 kind, .int .i64 count, .int .i64 back]).heap[w.heap.size]? = some (.cells #[.int .i64 num, .bool lossy, .int .i64 rate, .int .i64 ch, .int .i64 kind, .int .i64 count, .int .i64 back] 23 (0, 0)) := setRow_heap _ _ _ _ _ _ hk42
    have hk63 : ((w1.setRow w.heap.size #[.int .i64 num, .bool lossy, .int .i64 rate, .int .i64 ch, .int .i64 kind, .int .i64 count, .int .i64 back]).setRow w.heap.size #[.int .i64 num, .bool lossy, .int .i64 rate, .int .i64 ch, .int .i64 kind, .int .i64 count, .int .i64 back]).heap[w.heap.size + 1]? = some (.cells #[.int .i64 0] 26 (0, 0)) := (setRow_other _ _ _ _ (by omega)).trans ((setRow_other _ _ _ _ (by omega)).trans hk61)
    have z0 : (w1.setRow w.heap.size #[.int .i64 num, .bool lossy, .int .i64 rate, .int .i64 ch, .int .i64 kind, .int .i64 count, .int .i64 back]).cell? ⟨w.heap.size, 0, none⟩ = some (Value.int .i64 num) := by rw [cell_of_row _ _ _ _ _ _ hk42]; rfl
    have z1 : (w1.setRow w.heap.size #[.int .i64 num, .bool lossy, .int .i64 rate, .int .i64 ch, .int .i64 kind, .int .i64 count, .int .i64 back]).cell? ⟨w.heap.size, 1, none⟩ = some (Value.bool lossy) := by rw [cell_of_row _ _ _ _ _ _ hk42]; rfl
    have z2 : (w1.setRow w.heap.size #[.int .i64 num, .bool lossy, .int .i64 rate, .int .i64 ch, .int .i64 kind, .int .i64 count, .int .i64 back]).cell? ⟨w.heap.size, 2, none⟩ = some (Value.int .i64 rate) := by rw [cell_of_row _ _ _ _ _ _ hk42]; rfl
    have z3 : (w1.setRow w.heap.size #[.int .i64 num, .bool lossy, .int .i64 rate, .int .i64 ch, .int .i64 kind, .int .i64 count, .int .i64 back]).cell? ⟨w.heap.size, 3, none⟩ = some (Value.int .i64 ch) := by rw [cell_of_row _ _ _ _ _ _ hk42]; rfl
    have z4 : (w1.setRow w.heap.size #[.int .i64 num, .bool lossy, .int .i64 rate, .int .i64 ch, .int .i64 kind, .int .i64 count, .int .i64 back]).cell? ⟨w.heap.size, 4, none⟩ = some (Value.int .i64 kind) := by rw [cell_of_row _ _ _ _ _ _ hk42]; rfl
    have z5 : (w1.setRow w.heap.size #[.int .i64 num, .bool lossy, .int .i64 rate, .int .i64 ch, .int .i64 kind, .int .i64 count, .int .i64 back]).cell? ⟨w.heap.size, 5, none⟩ = some (Value.int .i64 count) := by rw [cell_of_row _ _ _ _ _ _ hk42]; rfl
    have z6 : (w1.setRow w.heap.size #[.int .i64 num, .bool lossy, .int .i64 rate, .int .i64 ch, .int .i64 kind, .int .i64 count, .int .i64 back]).cell? ⟨w.heap.size, 6, none⟩ = some (Value.int .i64 back) := by rw [cell_of_row _ _ _ _ _ _ hk42]; rfl
    have c60 : ((w1.setRow w.heap.size #[.int .i64 num, .bool lossy, .int .i64 rate, .int .i64 ch, .int .i64 kind, .int .i64 count, .int .i64 back]).setRow w.heap.size #[.int .i64 num, .bool lossy, .int .i64 rate, .int .i64 ch, .int .i64 kind, .int .i64 count, .int .i64 back]).cell? ⟨w.heap.size + 1, 0, none⟩ = some (.int .i64 0) := by rw [cell_of_row _ _ _ _ _ _ hk63]; rfl
    have f60 : ((w1.setRow w.heap.size #[.int .i64 num, .bool lossy, .int .i64 rate, .int .i64 ch, .int .i64 kind, .int .i64 count, .int .i64 back]).setRow w.heap.size #[.int .i64 num, .bool lossy, .int .i64 rate, .int .i64 ch, .int .i64 kind, .int .i64 count, .int .i64 back]).frozen? ⟨w.heap.size + 1, 0, none⟩ = false := blk_frozen hk63 0
    have HK4F : Aside0 ((((w1.setRow w.heap.size #[.int .i64 num, .bool lossy, .int .i64 rate, .int .i64 ch, .int .i64 kind, .int .i64 count, .int .i64 back]).setRow w.heap.size #[.int .i64 num, .bool lossy, .int .i64 rate, .int .i64 ch, .int .i64 kind, .int .i64 count, .int .i64 back]).setCell ⟨w.heap.size + 1, 0, none⟩ (.int .i64 0)).heap[w.heap.size]? = some (.cells #[.int .i64 num, .bool lossy, .int .i64 rate, .int .i64 ch, .int .i64 kind, .int .i64 count, .int .i64 back] 23 (0, 0))) := ⟨by rw [heap_setCell_other _ _ _ _ (show w.heap.size ≠ w.heap.size + 1 by omega)]; exact hk43⟩
    have HK6F : Aside0 ((((w1.setRow w.heap.size #[.int .i64 num, .bool lossy, .int .i64 rate, .int .i64 ch, .int .i64 kind, .int .i64 count, .int .i64 back]).setRow w.heap.size #[.int .i64 num, .bool lossy, .int .i64 rate, .int .i64 ch, .int .i64 kind, .int .i64 count, .int .i64 back]).setCell ⟨w.heap.size + 1, 0, none⟩ (.int .i64 0)).heap[w.heap.size + 1]? = some (.cells #[.int .i64 0] 26 (0, 0))) := ⟨by rw [heap_setCell_same _ _ _ _ _ _ hk63]; rfl⟩
    have hfr : Fr (fun k => k = w.heap.size ∨ k = w.heap.size + 1) w1 (((w1.setRow w.heap.size #[.int .i64 num, .bool lossy, .int .i64 rate, .int .i64 ch, .int .i64 kind, .int .i64 count, .int .i64 back]).setRow w.heap.size #[.int .i64 num, .bool lossy, .int .i64 rate, .int .i64 ch, .int .i64 kind, .int .i64 count, .int .i64 back]).setCell ⟨w.heap.size + 1, 0, none⟩ (.int .i64 0)) :=
      Fr.setCell (((fr_setRow' _ _ _).mono (fun k _ h => .inl h)).trans ((fr_setRow' _ _ _).mono (fun k _ h => .inl h))) (p := ⟨w.heap.size + 1, 0, none⟩) (fun _ => .inr rfl) _
    have HFRM := Aside0.mk hfr
    have HB : Aside0 (Below w.heap.size w (((w1.setRow w.heap.size #[.int .i64 num, .bool lossy, .int .i64 rate, .int .i64 ch, .int .i64 kind, .int .i64 count, .int .i64 back]).setRow w.heap.size #[.int .i64 num, .bool lossy, .int .i64 rate, .int .i64 ch, .int .i64 kind, .int .i64 count, .int .i64 back]).setCell ⟨w.heap.size + 1, 0, none⟩ (.int .i64 0))) := ⟨hb1.trans (hfr.to_below hb1.size (fun j hj => by omega))⟩
    have HRB := Aside0.mk hrb
    have HFROM := Aside0.mk hfrom
    have HKA := Aside0.mk hk41
    have HKB := Aside0.mk hk42
    clear hk41 hk61 hb1 hk42 hk43 hk63 hfr hrb hfrom hb
    go_wp2_with (first
      | (refine wpList_store_row rfl _ _ _ rfl w.heap.size #[.int .i64 num, .bool lossy, .int .i64 rate, .int .i64 ch, .int .i64 kind, .int .i64 count, .int .i64 back] rfl rfl _ _ HKA.out (by kernel_rfl) rfl (by kernel_rfl) ?_)
      | (refine wpList_store_row rfl _ _ _ rfl w.heap.size #[.int .i64 num, .bool lossy, .int .i64 rate, .int .i64 ch, .int .i64 kind, .int .i64 count, .int .i64 back] rfl rfl _ _ HKB.out (by kernel_rfl) rfl (by kernel_rfl) ?_))
    refine leaves_cons (f := 36) (args := #[.pointer (some ⟨w.heap.size + 1, 0, none⟩)]) (by simp) (by simp [go_sem]) ?_
    refine (caught_idle ⟨w.heap.size + 1, 0, none⟩ _).mono ?_
    rintro e u' w'' ⟨rfl, rfl, rfl⟩
    refine ⟨_, results_cti rfl _ _ w.heap.size _ _ _ _ rfl HK4F.out Tryd.underlying23 rfl (by kernel_rfl) ⟨w.heap.size + 1, 0, none⟩ .i64 0 rfl (cell_of_one HK6F.out) Tryd.underlying26, ?_⟩
    unfold ReadPost
    rw [HFR.out]
    dsimp only
    rw [HER.out]
    refine ⟨v, S', rfl, R_fr HRB.out HFRM.out (fun k hk _ e => ?_), fun k hk => ?_, HB.out⟩
    · have := HFROM.out k hk
      simp at this
      omega
    · have := HFROM.out k hk
      simp at this
      omega
  · have HRE : Aside0 (Calls Tryd.prog 37 #[.slice A' (B.length - n) (c - n)] ((w.alloc (.cells #[.int .i64 0, .bool false, .int .i64 0, .int .i64 0, .int .i64 0, .int .i64 0, .int .i64 0] 23)).alloc (.cells #[.int .i64 0] 26)) fun e w' => e = .panicked [{ v := errV (fReadB B').2.2, recovered := false }] ∧ Below ((w.alloc (.cells #[.int .i64 0, .bool false, .int .i64 0, .int .i64 0, .int .i64 0, .int .i64 0, .int .i64 0] 23)).alloc (.cells #[.int .i64 0] 26)).heap.size ((w.alloc (.cells #[.int .i64 0, .bool false, .int .i64 0, .int .i64 0, .int .i64 0, .int .i64 0, .int .i64 0] 23)).alloc (.cells #[.int .i64 0] 26)) w') := ⟨hread.mono fun e w' q => by
      unfold RdBPost at q
      obtain ⟨q1, q2⟩ := q
      rw [if_neg he] at q2
      exact ⟨q2, q1⟩⟩
    have hne : fReadB B' = (HD0, [], (fReadB B').2.2) := fReadB_err B' he
    have HNE := Aside0.mk hne
    generalize (fReadB B').2.2 = er at *
    clear hread he hne
    go_enter_defers Tryd.func16, Tryd.ntmps16
    go_wp2_with fail
    refine HRE.out.mono ?_
    rintro e w1 ⟨rfl, hb⟩
    have hk41 := blk_fr HK4.out (Fr.below hb (fun _ => False)) (fun h => h)
    have hk61 := blk_fr HK6.out (Fr.below hb (fun _ => False)) (fun h => h)
    have hb1 := HB0.out.trans (hb.mono HB0.out.size)
    have HK4F : Aside0 ((w1.setCell ⟨w.heap.size + 1, 0, none⟩ (.int .i64 er)).heap[w.heap.size]? = some (.cells #[.int .i64 0, .bool false, .int .i64 0, .int .i64 0, .int .i64 0, .int .i64 0, .int .i64 0] 23 (0, 0))) := ⟨by rw [heap_setCell_other _ _ _ _ (show w.heap.size ≠ w.heap.size + 1 by omega)]; exact hk41⟩
    have HK6F : Aside0 ((w1.setCell ⟨w.heap.size + 1, 0, none⟩ (.int .i64 er)).heap[w.heap.size + 1]? = some (.cells #[.int .i64 er] 26 (0, 0))) := ⟨by rw [heap_setCell_same _ _ _ _ _ _ hk61]; rfl⟩
    have HK61 := Aside0.mk hk61
    have HB : Aside0 (Below w.heap.size w (w1.setCell ⟨w.heap.size + 1, 0, none⟩ (.int .i64 er))) := ⟨hb1.trans ((Fr.setCell (S := fun k => k = w.heap.size + 1) (Fr.refl _ _) (p := ⟨w.heap.size + 1, 0, none⟩) (fun _ => rfl) _).to_below hb1.size (fun j hj => by omega))⟩
    clear hk41 hk61 hb1 hb
    go_wp2_with fail
    refine leaves_cons (f := 36) (args := #[.pointer (some ⟨w.heap.size + 1, 0, none⟩)]) (by simp) (by simp [go_sem]) ?_
    refine (caught_panic ⟨w.heap.size + 1, 0, none⟩ 0 er [] _ (cell_of_one HK61.out) (blk_frozen HK61.out 0)).mono ?_
    rintro e u' w'' ⟨rfl, rfl, rfl⟩
    refine ⟨_, results_cti rfl _ _ w.heap.size _ _ _ _ rfl HK4F.out Tryd.underlying23 rfl (by kernel_rfl) ⟨w.heap.size + 1, 0, none⟩ .i64 er rfl (cell_of_one HK6F.out) Tryd.underlying26, ?_⟩
    unfold ReadPost
    rw [HFR.out, HNE.out]
    exact ⟨_, fun _ => False, rfl, Kd.R_nil _ _ _ _ _, fun _ h => h.elim, HB.out⟩
end Go.Proofs.YtnaklnehichhpaaDoor.P
