/- Calls of a reader, as the law makes them: read and asked. -/
import Derived.Test.YtmjekkkpbcehoaaEc
import Derived.Test.YtmjekkkpbcehoaaBv
import Derived.Test.YtmjekkkpbcehoaaBn
namespace Go.Proofs.Ytmjekkkpbcehoaa.P
open Go.RowKit Go.Shelf Go.Proofs.Ytmjekkkpbcehoaa.Bits Go.Proofs.YtmjekkkpbcehoaaW.PrintWords Go.Proofs.YtmjekkkpbcehoaaW.PrintLast Go.Proofs.YtmjekkkpbcehoaaW.PrintMore
set_option linter.unusedVariables false
set_option linter.unusedSimpArgs false
attribute [local go_sem ↓] Go.wp_at_zero Go.wp_at_succ

/-- What a call of a reader gives: a number, bits, an error, where it stands then. -/
def rOp (L : List Int) (a : Nat) (o : OpD) : Int × List Int × Int × Nat := match o.kind % 7 with
  | 0 => ((rGet L a o.n).1, [], (rGet L a o.n).2.1, (rGet L a o.n).2.2)
  | 1 => ((rSigned L a o.n).1, [], (rSigned L a o.n).2.1, (rSigned L a o.n).2.2)
  | 2 => ((rUnary L a o.n).1, [], (rUnary L a o.n).2.1, (rUnary L a o.n).2.2)
  | 3 => ((rGamma L a).1, [], (rGamma L a).2.1, (rGamma L a).2.2)
  | 4 => ((rAlign L a : Int) - a, [], 0, rAlign L a)
  | 5 => (0, (rTake L a o.n).1, (rTake L a o.n).2.1, (rTake L a o.n).2.2)
  | _ => (0, [], (rSeek L a o.n).1, (rSeek L a o.n).2)
def reply (L : List Int) (r : Int × List Int × Int × Nat) (v : Value) : Value := .agg #[.int .i64 r.1, v, .int .i64 r.2.2.1, .int .i64 (r.2.2.2 : Int), .int .i64 ((L.length : Int) - (r.2.2.2 : Int))]
def ReadPost (w : World) (S : Nat → Prop) (p : Nat) (L : List Int) (r : Int × List Int × Int × Nat) (e : Ending) (w' : World) : Prop :=
  ∃ v S', e = .returned (reply L r v) ∧ RB S' w' v (pk r.2.1) ∧ (∀ k, S' k → w.heap.size ≤ k) ∧ Rd w' S p L r.2.2.2 ∧ Fr (fun k => k = p) w w'
theorem from_fr {T St : Nat → Prop} {w W w1 : World} (h : Fr T W w1) (hb : Below w.heap.size w W) (hs : ∀ k, St k → W.heap.size ≤ k) : ∀ k, St k → w.heap.size ≤ k := fun k hk => Nat.le_trans hb.size (hs k hk)
theorem fr_setRow (w : World) (g : Nat) (cs : Array Value) : Fr (fun k => k = g) w (w.setRow g cs) := ⟨rfl, rfl, rfl, by simp, fun k _ h => setRow_other w g k cs h⟩
def AskPost (w : World) (S : Nat → Prop) (p : Nat) (L : List Int) (r : Int × List Int × Int × Nat) (e : Ending) (w' : World) : Prop :=
  ∃ v S', e = .returned (reply L r v) ∧ RB S' w' v (pk r.2.1) ∧ (∀ k, S' k → w.heap.size ≤ k) ∧ RRd w' S p L r.2.2.2 ∧ Fr (fun k => k = p) w w'

set_option maxHeartbeats 4000000 in
set_option maxRecDepth 100000 in
theorem read_any (S : Nat → Prop) (p a : Nat) (L : List Int) (o : OpD) (w : World) (hR : Rd w S p L a) (hk : o.kind < 256) (hv : -9223372036854775808 ≤ o.v ∧ o.v ≤ 9223372036854775807) (hn : -9223372036854775808 ≤ o.n ∧ o.n ≤ 9223372036854775807) :
    Calls Try.prog 34 #[.pointer (some ⟨p, 0, none⟩), o.val] w (ReadPost w S p L (rOp L a o)) := by
  obtain ⟨kind, v, n, A, co, B⟩ := o
  dsimp only [OpD.val] at *
  have HR := Aside0.mk hR
  have HPL := Aside0.mk hR.p_lt
  have HSL := Aside0.mk hR.lt
  have hk7 : kind % 7 = 0 ∨ kind % 7 = 1 ∨ kind % 7 = 2 ∨ kind % 7 = 3 ∨ kind % 7 = 4 ∨ kind % 7 = 5 ∨ kind % 7 = 6 := by omega
  clear hR
  rcases hk7 with hq | hq | hq | hq | hq | hq | hq
  · have HN : Aside0 (rOp L a ⟨kind, v, n, A, co, B⟩ = ((rGet L a n).1, [], (rGet L a n).2.1, (rGet L a n).2.2)) := ⟨by unfold rOp; dsimp only; rw [hq]; rfl⟩
    have hq' : (kind : Int) % 7 = 0 := by omega
    have hcon := fun W h => Get_any S p a L n W h
    clear hq
    generalize rGet L a n = r at *
    obtain ⟨x, er, b⟩ := r
    dsimp only at *
    have HCON := Aside0.mk hcon
    clear hcon
    go_enter Try.func34, Try.ntmps34
    go_wp2_with fail
    refine (HCON.out _ (HR.out.below (by (repeat (first | with_reducible exact Below.refl _ _ | (refine Aside0.out (p := Below _ _ _) ?_; assumption) | refine below_drew ?_ | refine below_alloc ?_ _ | (refine below_step ?_ (Aside0.out (p := Below _ _ _) (by assumption)))))))).mono ?_
    rintro e w1 ⟨rfl, hr1, hf1⟩
    try dsimp only at hr1
    have hbx := blk_fr (heap_alloc2_new w _ _) hf1 (by have := HPL.out; omega)
    have HBX := Aside0.mk hbx
    have HR1 := Aside0.mk hr1
    have HF1 : Aside0 (Fr (fun k => k = p) w w1) := ⟨(Fr.below (by (repeat (first | with_reducible exact Below.refl _ _ | (refine Aside0.out (p := Below _ _ _) ?_; assumption) | refine below_drew ?_ | refine below_alloc ?_ _ | (refine below_step ?_ (Aside0.out (p := Below _ _ _) (by assumption)))))) _).trans hf1⟩
    clear hr1 hf1 hbx
    go_wp2_with fail
    refine (At_any S p _ L _ HR1.out).mono ?_
    rintro e w2 ⟨rfl, hw2⟩
    obtain rfl := hw2.symm
    go_wp2_with fail
    refine (Left_any S p _ L _ HR1.out).mono ?_
    rintro e w3 ⟨rfl, j3, rfl⟩
    go_wp2_with (refine wpList_store_row rfl _ _ _ rfl (w.heap.size + 1) #[.int .i64 x, .slice none 0 0, .int .i64 er, .int .i64 (b : Int), .int .i64 ((L.length : Int) - (b : Int))] rfl rfl _ _ (show (w1.drewN j3).heap[w.heap.size + 1]? = _ from HBX.out) (by kernel_rfl) rfl (by kernel_rfl) ?_)
    (try simp only [Exit.inBlock, Exit.then])
    refine bodyPost_ret (results_cell_row rfl _ _ (w.heap.size + 1) _ _ _ _ rfl (setRow_heap _ _ _ _ _ _ (show (w1.drewN j3).heap[w.heap.size + 1]? = _ from HBX.out)) Try.underlying65 rfl (by kernel_rfl)) rfl ?_
    have hW : Rd ((w1.drewN j3).setRow (w.heap.size + 1) #[.int .i64 x, .slice none 0 0, .int .i64 er, .int .i64 (b : Int), .int .i64 ((L.length : Int) - (b : Int))]) S p L b := (HR1.out.drew j3).fr (fr_setRow _ _ _) (fun e => by have := HPL.out; omega) (fun k hk e => by have := HSL.out k hk; omega)
    have hF : Fr (fun k => k = p) w ((w1.drewN j3).setRow (w.heap.size + 1) #[.int .i64 x, .slice none 0 0, .int .i64 er, .int .i64 (b : Int), .int .i64 ((L.length : Int) - (b : Int))]) := (HF1.out.trans (Fr.below (below_drewN (Below.refl _ _) j3) _)).next (fr_setRow _ _ _) (fun i hi e => by omega)
    rw [HN.out]
    exact ⟨_, fun _ => False, rfl, RB_nil _ _, fun _ h => h.elim, hW, hF⟩
  · have HN : Aside0 (rOp L a ⟨kind, v, n, A, co, B⟩ = ((rSigned L a n).1, [], (rSigned L a n).2.1, (rSigned L a n).2.2)) := ⟨by unfold rOp; dsimp only; rw [hq]; rfl⟩
    have hq' : (kind : Int) % 7 = 1 := by omega
    have hcon := fun W h => RSigned_any S p a L n W h
    clear hq
    generalize rSigned L a n = r at *
    obtain ⟨x, er, b⟩ := r
    dsimp only at *
    have HCON := Aside0.mk hcon
    clear hcon
    go_enter Try.func34, Try.ntmps34
    go_wp2_with fail
    refine (HCON.out _ (HR.out.below (by (repeat (first | with_reducible exact Below.refl _ _ | (refine Aside0.out (p := Below _ _ _) ?_; assumption) | refine below_drew ?_ | refine below_alloc ?_ _ | (refine below_step ?_ (Aside0.out (p := Below _ _ _) (by assumption)))))))).mono ?_
    rintro e w1 ⟨rfl, hr1, hf1⟩
    try dsimp only at hr1
    have hbx := blk_fr (heap_alloc2_new w _ _) hf1 (by have := HPL.out; omega)
    have HBX := Aside0.mk hbx
    have HR1 := Aside0.mk hr1
    have HF1 : Aside0 (Fr (fun k => k = p) w w1) := ⟨(Fr.below (by (repeat (first | with_reducible exact Below.refl _ _ | (refine Aside0.out (p := Below _ _ _) ?_; assumption) | refine below_drew ?_ | refine below_alloc ?_ _ | (refine below_step ?_ (Aside0.out (p := Below _ _ _) (by assumption)))))) _).trans hf1⟩
    clear hr1 hf1 hbx
    go_wp2_with fail
    refine (At_any S p _ L _ HR1.out).mono ?_
    rintro e w2 ⟨rfl, hw2⟩
    obtain rfl := hw2.symm
    go_wp2_with fail
    refine (Left_any S p _ L _ HR1.out).mono ?_
    rintro e w3 ⟨rfl, j3, rfl⟩
    go_wp2_with (refine wpList_store_row rfl _ _ _ rfl (w.heap.size + 1) #[.int .i64 x, .slice none 0 0, .int .i64 er, .int .i64 (b : Int), .int .i64 ((L.length : Int) - (b : Int))] rfl rfl _ _ (show (w1.drewN j3).heap[w.heap.size + 1]? = _ from HBX.out) (by kernel_rfl) rfl (by kernel_rfl) ?_)
    (try simp only [Exit.inBlock, Exit.then])
    refine bodyPost_ret (results_cell_row rfl _ _ (w.heap.size + 1) _ _ _ _ rfl (setRow_heap _ _ _ _ _ _ (show (w1.drewN j3).heap[w.heap.size + 1]? = _ from HBX.out)) Try.underlying65 rfl (by kernel_rfl)) rfl ?_
    have hW : Rd ((w1.drewN j3).setRow (w.heap.size + 1) #[.int .i64 x, .slice none 0 0, .int .i64 er, .int .i64 (b : Int), .int .i64 ((L.length : Int) - (b : Int))]) S p L b := (HR1.out.drew j3).fr (fr_setRow _ _ _) (fun e => by have := HPL.out; omega) (fun k hk e => by have := HSL.out k hk; omega)
    have hF : Fr (fun k => k = p) w ((w1.drewN j3).setRow (w.heap.size + 1) #[.int .i64 x, .slice none 0 0, .int .i64 er, .int .i64 (b : Int), .int .i64 ((L.length : Int) - (b : Int))]) := (HF1.out.trans (Fr.below (below_drewN (Below.refl _ _) j3) _)).next (fr_setRow _ _ _) (fun i hi e => by omega)
    rw [HN.out]
    exact ⟨_, fun _ => False, rfl, RB_nil _ _, fun _ h => h.elim, hW, hF⟩
  · have HN : Aside0 (rOp L a ⟨kind, v, n, A, co, B⟩ = ((rUnary L a n).1, [], (rUnary L a n).2.1, (rUnary L a n).2.2)) := ⟨by unfold rOp; dsimp only; rw [hq]; rfl⟩
    have hq' : (kind : Int) % 7 = 2 := by omega
    have hcon := fun W h => RUnary_any S p a L n W h
    clear hq
    generalize rUnary L a n = r at *
    obtain ⟨x, er, b⟩ := r
    dsimp only at *
    have HCON := Aside0.mk hcon
    clear hcon
    go_enter Try.func34, Try.ntmps34
    go_wp2_with fail
    refine (HCON.out _ (HR.out.below (by (repeat (first | with_reducible exact Below.refl _ _ | (refine Aside0.out (p := Below _ _ _) ?_; assumption) | refine below_drew ?_ | refine below_alloc ?_ _ | (refine below_step ?_ (Aside0.out (p := Below _ _ _) (by assumption)))))))).mono ?_
    rintro e w1 ⟨rfl, hr1, hf1⟩
    try dsimp only at hr1
    have hbx := blk_fr (heap_alloc2_new w _ _) hf1 (by have := HPL.out; omega)
    have HBX := Aside0.mk hbx
    have HR1 := Aside0.mk hr1
    have HF1 : Aside0 (Fr (fun k => k = p) w w1) := ⟨(Fr.below (by (repeat (first | with_reducible exact Below.refl _ _ | (refine Aside0.out (p := Below _ _ _) ?_; assumption) | refine below_drew ?_ | refine below_alloc ?_ _ | (refine below_step ?_ (Aside0.out (p := Below _ _ _) (by assumption)))))) _).trans hf1⟩
    clear hr1 hf1 hbx
    go_wp2_with fail
    refine (At_any S p _ L _ HR1.out).mono ?_
    rintro e w2 ⟨rfl, hw2⟩
    obtain rfl := hw2.symm
    go_wp2_with fail
    refine (Left_any S p _ L _ HR1.out).mono ?_
    rintro e w3 ⟨rfl, j3, rfl⟩
    go_wp2_with (refine wpList_store_row rfl _ _ _ rfl (w.heap.size + 1) #[.int .i64 x, .slice none 0 0, .int .i64 er, .int .i64 (b : Int), .int .i64 ((L.length : Int) - (b : Int))] rfl rfl _ _ (show (w1.drewN j3).heap[w.heap.size + 1]? = _ from HBX.out) (by kernel_rfl) rfl (by kernel_rfl) ?_)
    (try simp only [Exit.inBlock, Exit.then])
    refine bodyPost_ret (results_cell_row rfl _ _ (w.heap.size + 1) _ _ _ _ rfl (setRow_heap _ _ _ _ _ _ (show (w1.drewN j3).heap[w.heap.size + 1]? = _ from HBX.out)) Try.underlying65 rfl (by kernel_rfl)) rfl ?_
    have hW : Rd ((w1.drewN j3).setRow (w.heap.size + 1) #[.int .i64 x, .slice none 0 0, .int .i64 er, .int .i64 (b : Int), .int .i64 ((L.length : Int) - (b : Int))]) S p L b := (HR1.out.drew j3).fr (fr_setRow _ _ _) (fun e => by have := HPL.out; omega) (fun k hk e => by have := HSL.out k hk; omega)
    have hF : Fr (fun k => k = p) w ((w1.drewN j3).setRow (w.heap.size + 1) #[.int .i64 x, .slice none 0 0, .int .i64 er, .int .i64 (b : Int), .int .i64 ((L.length : Int) - (b : Int))]) := (HF1.out.trans (Fr.below (below_drewN (Below.refl _ _) j3) _)).next (fr_setRow _ _ _) (fun i hi e => by omega)
    rw [HN.out]
    exact ⟨_, fun _ => False, rfl, RB_nil _ _, fun _ h => h.elim, hW, hF⟩
  · have HN : Aside0 (rOp L a ⟨kind, v, n, A, co, B⟩ = ((rGamma L a).1, [], (rGamma L a).2.1, (rGamma L a).2.2)) := ⟨by unfold rOp; dsimp only; rw [hq]; rfl⟩
    have hq' : (kind : Int) % 7 = 3 := by omega
    have hcon := fun W h => RGamma_any S p a L W h
    clear hq
    generalize rGamma L a = r at *
    obtain ⟨x, er, b⟩ := r
    dsimp only at *
    have HCON := Aside0.mk hcon
    clear hcon
    go_enter Try.func34, Try.ntmps34
    go_wp2_with fail
    refine (HCON.out _ (HR.out.below (by (repeat (first | with_reducible exact Below.refl _ _ | (refine Aside0.out (p := Below _ _ _) ?_; assumption) | refine below_drew ?_ | refine below_alloc ?_ _ | (refine below_step ?_ (Aside0.out (p := Below _ _ _) (by assumption)))))))).mono ?_
    rintro e w1 ⟨rfl, hr1, hf1⟩
    try dsimp only at hr1
    have hbx := blk_fr (heap_alloc2_new w _ _) hf1 (by have := HPL.out; omega)
    have HBX := Aside0.mk hbx
    have HR1 := Aside0.mk hr1
    have HF1 : Aside0 (Fr (fun k => k = p) w w1) := ⟨(Fr.below (by (repeat (first | with_reducible exact Below.refl _ _ | (refine Aside0.out (p := Below _ _ _) ?_; assumption) | refine below_drew ?_ | refine below_alloc ?_ _ | (refine below_step ?_ (Aside0.out (p := Below _ _ _) (by assumption)))))) _).trans hf1⟩
    clear hr1 hf1 hbx
    go_wp2_with fail
    refine (At_any S p _ L _ HR1.out).mono ?_
    rintro e w2 ⟨rfl, hw2⟩
    obtain rfl := hw2.symm
    go_wp2_with fail
    refine (Left_any S p _ L _ HR1.out).mono ?_
    rintro e w3 ⟨rfl, j3, rfl⟩
    go_wp2_with (refine wpList_store_row rfl _ _ _ rfl (w.heap.size + 1) #[.int .i64 x, .slice none 0 0, .int .i64 er, .int .i64 (b : Int), .int .i64 ((L.length : Int) - (b : Int))] rfl rfl _ _ (show (w1.drewN j3).heap[w.heap.size + 1]? = _ from HBX.out) (by kernel_rfl) rfl (by kernel_rfl) ?_)
    (try simp only [Exit.inBlock, Exit.then])
    refine bodyPost_ret (results_cell_row rfl _ _ (w.heap.size + 1) _ _ _ _ rfl (setRow_heap _ _ _ _ _ _ (show (w1.drewN j3).heap[w.heap.size + 1]? = _ from HBX.out)) Try.underlying65 rfl (by kernel_rfl)) rfl ?_
    have hW : Rd ((w1.drewN j3).setRow (w.heap.size + 1) #[.int .i64 x, .slice none 0 0, .int .i64 er, .int .i64 (b : Int), .int .i64 ((L.length : Int) - (b : Int))]) S p L b := (HR1.out.drew j3).fr (fr_setRow _ _ _) (fun e => by have := HPL.out; omega) (fun k hk e => by have := HSL.out k hk; omega)
    have hF : Fr (fun k => k = p) w ((w1.drewN j3).setRow (w.heap.size + 1) #[.int .i64 x, .slice none 0 0, .int .i64 er, .int .i64 (b : Int), .int .i64 ((L.length : Int) - (b : Int))]) := (HF1.out.trans (Fr.below (below_drewN (Below.refl _ _) j3) _)).next (fr_setRow _ _ _) (fun i hi e => by omega)
    rw [HN.out]
    exact ⟨_, fun _ => False, rfl, RB_nil _ _, fun _ h => h.elim, hW, hF⟩
  · have HN : Aside0 (rOp L a ⟨kind, v, n, A, co, B⟩ = ((rAlign L a : Int) - a, [], 0, rAlign L a)) := ⟨by unfold rOp; dsimp only; rw [hq]; rfl⟩
    have hq' : (kind : Int) % 7 = 4 := by omega
    have hcon := fun W h => RAlign_any S p a L W h
    clear hq
    generalize rAlign L a = b at *
    have HCON := Aside0.mk hcon
    clear hcon
    go_enter Try.func34, Try.ntmps34
    go_wp2_with fail
    refine (HCON.out _ (HR.out.below (by (repeat (first | with_reducible exact Below.refl _ _ | (refine Aside0.out (p := Below _ _ _) ?_; assumption) | refine below_drew ?_ | refine below_alloc ?_ _ | (refine below_step ?_ (Aside0.out (p := Below _ _ _) (by assumption)))))))).mono ?_
    rintro e w1 ⟨rfl, hr1, hf1⟩
    have hbx := blk_fr (heap_alloc2_new w _ _) hf1 (by have := HPL.out; omega)
    have HBX := Aside0.mk hbx
    have HR1 := Aside0.mk hr1
    have HF1 : Aside0 (Fr (fun k => k = p) w w1) := ⟨(Fr.below (by (repeat (first | with_reducible exact Below.refl _ _ | (refine Aside0.out (p := Below _ _ _) ?_; assumption) | refine below_drew ?_ | refine below_alloc ?_ _ | (refine below_step ?_ (Aside0.out (p := Below _ _ _) (by assumption)))))) _).trans hf1⟩
    clear hr1 hf1 hbx
    go_wp2_with fail
    refine (At_any S p _ L _ HR1.out).mono ?_
    rintro e w2 ⟨rfl, hw2⟩
    obtain rfl := hw2.symm
    go_wp2_with fail
    refine (Left_any S p _ L _ HR1.out).mono ?_
    rintro e w3 ⟨rfl, j3, rfl⟩
    go_wp2_with (refine wpList_store_row rfl _ _ _ rfl (w.heap.size + 1) #[.int .i64 ((b : Int) - (a : Int)), .slice none 0 0, .int .i64 0, .int .i64 (b : Int), .int .i64 ((L.length : Int) - (b : Int))] rfl rfl _ _ (show (w1.drewN j3).heap[w.heap.size + 1]? = _ from HBX.out) (by kernel_rfl) rfl (by kernel_rfl) ?_)
    (try simp only [Exit.inBlock, Exit.then])
    refine bodyPost_ret (results_cell_row rfl _ _ (w.heap.size + 1) _ _ _ _ rfl (setRow_heap _ _ _ _ _ _ (show (w1.drewN j3).heap[w.heap.size + 1]? = _ from HBX.out)) Try.underlying65 rfl (by kernel_rfl)) rfl ?_
    have hW : Rd ((w1.drewN j3).setRow (w.heap.size + 1) #[.int .i64 ((b : Int) - (a : Int)), .slice none 0 0, .int .i64 0, .int .i64 (b : Int), .int .i64 ((L.length : Int) - (b : Int))]) S p L b := (HR1.out.drew j3).fr (fr_setRow _ _ _) (fun e => by have := HPL.out; omega) (fun k hk e => by have := HSL.out k hk; omega)
    have hF : Fr (fun k => k = p) w ((w1.drewN j3).setRow (w.heap.size + 1) #[.int .i64 ((b : Int) - (a : Int)), .slice none 0 0, .int .i64 0, .int .i64 (b : Int), .int .i64 ((L.length : Int) - (b : Int))]) := (HF1.out.trans (Fr.below (below_drewN (Below.refl _ _) j3) _)).next (fr_setRow _ _ _) (fun i hi e => by omega)
    rw [HN.out]
    exact ⟨_, fun _ => False, rfl, RB_nil _ _, fun _ h => h.elim, hW, hF⟩
  · have HN : Aside0 (rOp L a ⟨kind, v, n, A, co, B⟩ = (0, (rTake L a n).1, (rTake L a n).2.1, (rTake L a n).2.2)) := ⟨by unfold rOp; dsimp only; rw [hq]; rfl⟩
    have hq' : (kind : Int) % 7 = 5 := by omega
    have hcon := fun W h => Take_any S p a L n W h
    clear hq
    generalize rTake L a n = r at *
    obtain ⟨x, er, b⟩ := r
    dsimp only at *
    have HCON := Aside0.mk hcon
    clear hcon
    go_enter Try.func34, Try.ntmps34
    go_wp2_with fail
    refine (HCON.out _ (HR.out.below (by (repeat (first | with_reducible exact Below.refl _ _ | (refine Aside0.out (p := Below _ _ _) ?_; assumption) | refine below_drew ?_ | refine below_alloc ?_ _ | (refine below_step ?_ (Aside0.out (p := Below _ _ _) (by assumption)))))))).mono ?_
    rintro e w1 ⟨vt, St, rfl, hrt, hst, hr1, hf1⟩
    try dsimp only at hr1 hrt
    have HRT := Aside0.mk hrt
    obtain ⟨At, ct, evt⟩ := Kd.R_slice hrt
    subst evt
    have HST : Aside0 (∀ k, St k → w.heap.size + 2 ≤ k) := ⟨fun k hk => by have := (hst k hk).1; simp at this; omega⟩
    clear hrt hst
    have hbx := blk_fr (heap_alloc2_new w _ _) hf1 (by have := HPL.out; omega)
    have HBX := Aside0.mk hbx
    have HR1 := Aside0.mk hr1
    have HF1 : Aside0 (Fr (fun k => k = p) w w1) := ⟨(Fr.below (by (repeat (first | with_reducible exact Below.refl _ _ | (refine Aside0.out (p := Below _ _ _) ?_; assumption) | refine below_drew ?_ | refine below_alloc ?_ _ | (refine below_step ?_ (Aside0.out (p := Below _ _ _) (by assumption)))))) _).trans hf1⟩
    clear hr1 hf1 hbx
    go_wp2_with fail
    refine (At_any S p _ L _ HR1.out).mono ?_
    rintro e w2 ⟨rfl, hw2⟩
    obtain rfl := hw2.symm
    go_wp2_with fail
    refine (Left_any S p _ L _ HR1.out).mono ?_
    rintro e w3 ⟨rfl, j3, rfl⟩
    go_wp2_with (refine wpList_store_row rfl _ _ _ rfl (w.heap.size + 1) #[.int .i64 0, .slice At (pk x).length ct, .int .i64 er, .int .i64 (b : Int), .int .i64 ((L.length : Int) - (b : Int))] rfl rfl _ _ (show (w1.drewN j3).heap[w.heap.size + 1]? = _ from HBX.out) (by kernel_rfl) rfl (by kernel_rfl) ?_)
    (try simp only [Exit.inBlock, Exit.then])
    refine bodyPost_ret (results_cell_row rfl _ _ (w.heap.size + 1) _ _ _ _ rfl (setRow_heap _ _ _ _ _ _ (show (w1.drewN j3).heap[w.heap.size + 1]? = _ from HBX.out)) Try.underlying65 rfl (by kernel_rfl)) rfl ?_
    have hW : Rd ((w1.drewN j3).setRow (w.heap.size + 1) #[.int .i64 0, .slice At (pk x).length ct, .int .i64 er, .int .i64 (b : Int), .int .i64 ((L.length : Int) - (b : Int))]) S p L b := (HR1.out.drew j3).fr (fr_setRow _ _ _) (fun e => by have := HPL.out; omega) (fun k hk e => by have := HSL.out k hk; omega)
    have hF : Fr (fun k => k = p) w ((w1.drewN j3).setRow (w.heap.size + 1) #[.int .i64 0, .slice At (pk x).length ct, .int .i64 er, .int .i64 (b : Int), .int .i64 ((L.length : Int) - (b : Int))]) := (HF1.out.trans (Fr.below (below_drewN (Below.refl _ _) j3) _)).next (fr_setRow _ _ _) (fun i hi e => by omega)
    rw [HN.out]
    exact ⟨_, St, rfl, R_fr (R_fr HRT.out (Fr.below (below_drewN (Below.refl _ _) j3) (fun _ => False)) (fun _ _ _ h => h)) (fr_setRow _ _ _) (fun k hk _ e => by have := HST.out k hk; omega), fun k hk => by have := HST.out k hk; omega, hW, hF⟩
  · have HN : Aside0 (rOp L a ⟨kind, v, n, A, co, B⟩ = (0, [], (rSeek L a n).1, (rSeek L a n).2)) := ⟨by unfold rOp; dsimp only; rw [hq]; rfl⟩
    have hq' : (kind : Int) % 7 = 6 := by omega
    have hcon := fun W h => Seek_any S p a L n W h
    clear hq
    generalize rSeek L a n = r at *
    obtain ⟨er, b⟩ := r
    dsimp only at *
    have HCON := Aside0.mk hcon
    clear hcon
    go_enter Try.func34, Try.ntmps34
    go_wp2_with fail
    refine (HCON.out _ (HR.out.below (by (repeat (first | with_reducible exact Below.refl _ _ | (refine Aside0.out (p := Below _ _ _) ?_; assumption) | refine below_drew ?_ | refine below_alloc ?_ _ | (refine below_step ?_ (Aside0.out (p := Below _ _ _) (by assumption)))))))).mono ?_
    rintro e w1 ⟨rfl, hr1, hf1⟩
    try dsimp only at hr1
    have hbx := blk_fr (heap_alloc2_new w _ _) hf1 (by have := HPL.out; omega)
    have HBX := Aside0.mk hbx
    have HR1 := Aside0.mk hr1
    have HF1 : Aside0 (Fr (fun k => k = p) w w1) := ⟨(Fr.below (by (repeat (first | with_reducible exact Below.refl _ _ | (refine Aside0.out (p := Below _ _ _) ?_; assumption) | refine below_drew ?_ | refine below_alloc ?_ _ | (refine below_step ?_ (Aside0.out (p := Below _ _ _) (by assumption)))))) _).trans hf1⟩
    clear hr1 hf1 hbx
    go_wp2_with fail
    refine (At_any S p _ L _ HR1.out).mono ?_
    rintro e w2 ⟨rfl, hw2⟩
    obtain rfl := hw2.symm
    go_wp2_with fail
    refine (Left_any S p _ L _ HR1.out).mono ?_
    rintro e w3 ⟨rfl, j3, rfl⟩
    go_wp2_with (refine wpList_store_row rfl _ _ _ rfl (w.heap.size + 1) #[.int .i64 0, .slice none 0 0, .int .i64 er, .int .i64 (b : Int), .int .i64 ((L.length : Int) - (b : Int))] rfl rfl _ _ (show (w1.drewN j3).heap[w.heap.size + 1]? = _ from HBX.out) (by kernel_rfl) rfl (by kernel_rfl) ?_)
    (try simp only [Exit.inBlock, Exit.then])
    refine bodyPost_ret (results_cell_row rfl _ _ (w.heap.size + 1) _ _ _ _ rfl (setRow_heap _ _ _ _ _ _ (show (w1.drewN j3).heap[w.heap.size + 1]? = _ from HBX.out)) Try.underlying65 rfl (by kernel_rfl)) rfl ?_
    have hW : Rd ((w1.drewN j3).setRow (w.heap.size + 1) #[.int .i64 0, .slice none 0 0, .int .i64 er, .int .i64 (b : Int), .int .i64 ((L.length : Int) - (b : Int))]) S p L b := (HR1.out.drew j3).fr (fr_setRow _ _ _) (fun e => by have := HPL.out; omega) (fun k hk e => by have := HSL.out k hk; omega)
    have hF : Fr (fun k => k = p) w ((w1.drewN j3).setRow (w.heap.size + 1) #[.int .i64 0, .slice none 0 0, .int .i64 er, .int .i64 (b : Int), .int .i64 ((L.length : Int) - (b : Int))]) := (HF1.out.trans (Fr.below (below_drewN (Below.refl _ _) j3) _)).next (fr_setRow _ _ _) (fun i hi e => by omega)
    rw [HN.out]
    exact ⟨_, fun _ => False, rfl, RB_nil _ _, fun _ h => h.elim, hW, hF⟩

set_option maxHeartbeats 4000000 in
set_option maxRecDepth 100000 in
theorem asked_any (S : Nat → Prop) (p a : Nat) (L : List Int) (o : OpD) (w : World) (hR : RRd w S p L a) (hk : o.kind < 256) (hv : -9223372036854775808 ≤ o.v ∧ o.v ≤ 9223372036854775807) (hn : -9223372036854775808 ≤ o.n ∧ o.n ≤ 9223372036854775807) :
    Calls Try.prog 35 #[.pointer (some ⟨p, 0, none⟩), o.val] w (AskPost w S p L (rOp L a o)) := by
  obtain ⟨kind, v, n, A, co, B⟩ := o
  dsimp only [OpD.val] at *
  have HR := Aside0.mk hR
  have HPL := Aside0.mk hR.p_lt
  have HSL := Aside0.mk hR.lt
  have hk7 : kind % 7 = 0 ∨ kind % 7 = 1 ∨ kind % 7 = 2 ∨ kind % 7 = 3 ∨ kind % 7 = 4 ∨ kind % 7 = 5 ∨ kind % 7 = 6 := by omega
  clear hR
  rcases hk7 with hq | hq | hq | hq | hq | hq | hq
  · have HN : Aside0 (rOp L a ⟨kind, v, n, A, co, B⟩ = ((rGet L a n).1, [], (rGet L a n).2.1, (rGet L a n).2.2)) := ⟨by unfold rOp; dsimp only; rw [hq]; rfl⟩
    have hq' : (kind : Int) % 7 = 0 := by omega
    have hcon := fun W h => RefGet_any S p a L n W h
    clear hq
    generalize rGet L a n = r at *
    obtain ⟨x, er, b⟩ := r
    dsimp only at *
    have HCON := Aside0.mk hcon
    clear hcon
    go_enter Try.func35, Try.ntmps35
    go_wp2_with fail
    refine (HCON.out _ (HR.out.below (by (repeat (first | with_reducible exact Below.refl _ _ | (refine Aside0.out (p := Below _ _ _) ?_; assumption) | refine below_drew ?_ | refine below_alloc ?_ _ | (refine below_step ?_ (Aside0.out (p := Below _ _ _) (by assumption)))))))).mono ?_
    rintro e w1 ⟨rfl, hr1, hf1⟩
    try dsimp only at hr1
    have hbx := blk_fr (heap_alloc2_new w _ _) hf1 (by have := HPL.out; omega)
    have HBX := Aside0.mk hbx
    have HR1 := Aside0.mk hr1
    have HF1 : Aside0 (Fr (fun k => k = p) w w1) := ⟨(Fr.below (by (repeat (first | with_reducible exact Below.refl _ _ | (refine Aside0.out (p := Below _ _ _) ?_; assumption) | refine below_drew ?_ | refine below_alloc ?_ _ | (refine below_step ?_ (Aside0.out (p := Below _ _ _) (by assumption)))))) _).trans hf1⟩
    clear hr1 hf1 hbx
    go_wp2_with fail
    refine (RefAt_any S p _ L _ HR1.out).mono ?_
    rintro e w2 ⟨rfl, hw2⟩
    obtain rfl := hw2.symm
    go_wp2_with fail
    refine (RefLeft_any S p _ L _ HR1.out).mono ?_
    rintro e w3 ⟨rfl, j3, rfl⟩
    go_wp2_with (refine wpList_store_row rfl _ _ _ rfl (w.heap.size + 1) #[.int .i64 x, .slice none 0 0, .int .i64 er, .int .i64 (b : Int), .int .i64 ((L.length : Int) - (b : Int))] rfl rfl _ _ (show (w1.drewN j3).heap[w.heap.size + 1]? = _ from HBX.out) (by kernel_rfl) rfl (by kernel_rfl) ?_)
    (try simp only [Exit.inBlock, Exit.then])
    refine bodyPost_ret (results_cell_row rfl _ _ (w.heap.size + 1) _ _ _ _ rfl (setRow_heap _ _ _ _ _ _ (show (w1.drewN j3).heap[w.heap.size + 1]? = _ from HBX.out)) Try.underlying65 rfl (by kernel_rfl)) rfl ?_
    have hW : RRd ((w1.drewN j3).setRow (w.heap.size + 1) #[.int .i64 x, .slice none 0 0, .int .i64 er, .int .i64 (b : Int), .int .i64 ((L.length : Int) - (b : Int))]) S p L b := (HR1.out.drew j3).fr (fr_setRow _ _ _) (fun e => by have := HPL.out; omega) (fun k hk e => by have := HSL.out k hk; omega)
    have hF : Fr (fun k => k = p) w ((w1.drewN j3).setRow (w.heap.size + 1) #[.int .i64 x, .slice none 0 0, .int .i64 er, .int .i64 (b : Int), .int .i64 ((L.length : Int) - (b : Int))]) := (HF1.out.trans (Fr.below (below_drewN (Below.refl _ _) j3) _)).next (fr_setRow _ _ _) (fun i hi e => by omega)
    rw [HN.out]
    exact ⟨_, fun _ => False, rfl, RB_nil _ _, fun _ h => h.elim, hW, hF⟩
  · have HN : Aside0 (rOp L a ⟨kind, v, n, A, co, B⟩ = ((rSigned L a n).1, [], (rSigned L a n).2.1, (rSigned L a n).2.2)) := ⟨by unfold rOp; dsimp only; rw [hq]; rfl⟩
    have hq' : (kind : Int) % 7 = 1 := by omega
    have hcon := fun W h => RefSigned_any S p a L n W h
    clear hq
    generalize rSigned L a n = r at *
    obtain ⟨x, er, b⟩ := r
    dsimp only at *
    have HCON := Aside0.mk hcon
    clear hcon
    go_enter Try.func35, Try.ntmps35
    go_wp2_with fail
    refine (HCON.out _ (HR.out.below (by (repeat (first | with_reducible exact Below.refl _ _ | (refine Aside0.out (p := Below _ _ _) ?_; assumption) | refine below_drew ?_ | refine below_alloc ?_ _ | (refine below_step ?_ (Aside0.out (p := Below _ _ _) (by assumption)))))))).mono ?_
    rintro e w1 ⟨rfl, hr1, hf1⟩
    try dsimp only at hr1
    have hbx := blk_fr (heap_alloc2_new w _ _) hf1 (by have := HPL.out; omega)
    have HBX := Aside0.mk hbx
    have HR1 := Aside0.mk hr1
    have HF1 : Aside0 (Fr (fun k => k = p) w w1) := ⟨(Fr.below (by (repeat (first | with_reducible exact Below.refl _ _ | (refine Aside0.out (p := Below _ _ _) ?_; assumption) | refine below_drew ?_ | refine below_alloc ?_ _ | (refine below_step ?_ (Aside0.out (p := Below _ _ _) (by assumption)))))) _).trans hf1⟩
    clear hr1 hf1 hbx
    go_wp2_with fail
    refine (RefAt_any S p _ L _ HR1.out).mono ?_
    rintro e w2 ⟨rfl, hw2⟩
    obtain rfl := hw2.symm
    go_wp2_with fail
    refine (RefLeft_any S p _ L _ HR1.out).mono ?_
    rintro e w3 ⟨rfl, j3, rfl⟩
    go_wp2_with (refine wpList_store_row rfl _ _ _ rfl (w.heap.size + 1) #[.int .i64 x, .slice none 0 0, .int .i64 er, .int .i64 (b : Int), .int .i64 ((L.length : Int) - (b : Int))] rfl rfl _ _ (show (w1.drewN j3).heap[w.heap.size + 1]? = _ from HBX.out) (by kernel_rfl) rfl (by kernel_rfl) ?_)
    (try simp only [Exit.inBlock, Exit.then])
    refine bodyPost_ret (results_cell_row rfl _ _ (w.heap.size + 1) _ _ _ _ rfl (setRow_heap _ _ _ _ _ _ (show (w1.drewN j3).heap[w.heap.size + 1]? = _ from HBX.out)) Try.underlying65 rfl (by kernel_rfl)) rfl ?_
    have hW : RRd ((w1.drewN j3).setRow (w.heap.size + 1) #[.int .i64 x, .slice none 0 0, .int .i64 er, .int .i64 (b : Int), .int .i64 ((L.length : Int) - (b : Int))]) S p L b := (HR1.out.drew j3).fr (fr_setRow _ _ _) (fun e => by have := HPL.out; omega) (fun k hk e => by have := HSL.out k hk; omega)
    have hF : Fr (fun k => k = p) w ((w1.drewN j3).setRow (w.heap.size + 1) #[.int .i64 x, .slice none 0 0, .int .i64 er, .int .i64 (b : Int), .int .i64 ((L.length : Int) - (b : Int))]) := (HF1.out.trans (Fr.below (below_drewN (Below.refl _ _) j3) _)).next (fr_setRow _ _ _) (fun i hi e => by omega)
    rw [HN.out]
    exact ⟨_, fun _ => False, rfl, RB_nil _ _, fun _ h => h.elim, hW, hF⟩
  · have HN : Aside0 (rOp L a ⟨kind, v, n, A, co, B⟩ = ((rUnary L a n).1, [], (rUnary L a n).2.1, (rUnary L a n).2.2)) := ⟨by unfold rOp; dsimp only; rw [hq]; rfl⟩
    have hq' : (kind : Int) % 7 = 2 := by omega
    have hcon := fun W h => RefUnary_any S p a L n W h
    clear hq
    generalize rUnary L a n = r at *
    obtain ⟨x, er, b⟩ := r
    dsimp only at *
    have HCON := Aside0.mk hcon
    clear hcon
    go_enter Try.func35, Try.ntmps35
    go_wp2_with fail
    refine (HCON.out _ (HR.out.below (by (repeat (first | with_reducible exact Below.refl _ _ | (refine Aside0.out (p := Below _ _ _) ?_; assumption) | refine below_drew ?_ | refine below_alloc ?_ _ | (refine below_step ?_ (Aside0.out (p := Below _ _ _) (by assumption)))))))).mono ?_
    rintro e w1 ⟨rfl, hr1, hf1⟩
    try dsimp only at hr1
    have hbx := blk_fr (heap_alloc2_new w _ _) hf1 (by have := HPL.out; omega)
    have HBX := Aside0.mk hbx
    have HR1 := Aside0.mk hr1
    have HF1 : Aside0 (Fr (fun k => k = p) w w1) := ⟨(Fr.below (by (repeat (first | with_reducible exact Below.refl _ _ | (refine Aside0.out (p := Below _ _ _) ?_; assumption) | refine below_drew ?_ | refine below_alloc ?_ _ | (refine below_step ?_ (Aside0.out (p := Below _ _ _) (by assumption)))))) _).trans hf1⟩
    clear hr1 hf1 hbx
    go_wp2_with fail
    refine (RefAt_any S p _ L _ HR1.out).mono ?_
    rintro e w2 ⟨rfl, hw2⟩
    obtain rfl := hw2.symm
    go_wp2_with fail
    refine (RefLeft_any S p _ L _ HR1.out).mono ?_
    rintro e w3 ⟨rfl, j3, rfl⟩
    go_wp2_with (refine wpList_store_row rfl _ _ _ rfl (w.heap.size + 1) #[.int .i64 x, .slice none 0 0, .int .i64 er, .int .i64 (b : Int), .int .i64 ((L.length : Int) - (b : Int))] rfl rfl _ _ (show (w1.drewN j3).heap[w.heap.size + 1]? = _ from HBX.out) (by kernel_rfl) rfl (by kernel_rfl) ?_)
    (try simp only [Exit.inBlock, Exit.then])
    refine bodyPost_ret (results_cell_row rfl _ _ (w.heap.size + 1) _ _ _ _ rfl (setRow_heap _ _ _ _ _ _ (show (w1.drewN j3).heap[w.heap.size + 1]? = _ from HBX.out)) Try.underlying65 rfl (by kernel_rfl)) rfl ?_
    have hW : RRd ((w1.drewN j3).setRow (w.heap.size + 1) #[.int .i64 x, .slice none 0 0, .int .i64 er, .int .i64 (b : Int), .int .i64 ((L.length : Int) - (b : Int))]) S p L b := (HR1.out.drew j3).fr (fr_setRow _ _ _) (fun e => by have := HPL.out; omega) (fun k hk e => by have := HSL.out k hk; omega)
    have hF : Fr (fun k => k = p) w ((w1.drewN j3).setRow (w.heap.size + 1) #[.int .i64 x, .slice none 0 0, .int .i64 er, .int .i64 (b : Int), .int .i64 ((L.length : Int) - (b : Int))]) := (HF1.out.trans (Fr.below (below_drewN (Below.refl _ _) j3) _)).next (fr_setRow _ _ _) (fun i hi e => by omega)
    rw [HN.out]
    exact ⟨_, fun _ => False, rfl, RB_nil _ _, fun _ h => h.elim, hW, hF⟩
  · have HN : Aside0 (rOp L a ⟨kind, v, n, A, co, B⟩ = ((rGamma L a).1, [], (rGamma L a).2.1, (rGamma L a).2.2)) := ⟨by unfold rOp; dsimp only; rw [hq]; rfl⟩
    have hq' : (kind : Int) % 7 = 3 := by omega
    have hcon := fun W h => RefGamma_any S p a L W h
    clear hq
    generalize rGamma L a = r at *
    obtain ⟨x, er, b⟩ := r
    dsimp only at *
    have HCON := Aside0.mk hcon
    clear hcon
    go_enter Try.func35, Try.ntmps35
    go_wp2_with fail
    refine (HCON.out _ (HR.out.below (by (repeat (first | with_reducible exact Below.refl _ _ | (refine Aside0.out (p := Below _ _ _) ?_; assumption) | refine below_drew ?_ | refine below_alloc ?_ _ | (refine below_step ?_ (Aside0.out (p := Below _ _ _) (by assumption)))))))).mono ?_
    rintro e w1 ⟨rfl, hr1, hf1⟩
    try dsimp only at hr1
    have hbx := blk_fr (heap_alloc2_new w _ _) hf1 (by have := HPL.out; omega)
    have HBX := Aside0.mk hbx
    have HR1 := Aside0.mk hr1
    have HF1 : Aside0 (Fr (fun k => k = p) w w1) := ⟨(Fr.below (by (repeat (first | with_reducible exact Below.refl _ _ | (refine Aside0.out (p := Below _ _ _) ?_; assumption) | refine below_drew ?_ | refine below_alloc ?_ _ | (refine below_step ?_ (Aside0.out (p := Below _ _ _) (by assumption)))))) _).trans hf1⟩
    clear hr1 hf1 hbx
    go_wp2_with fail
    refine (RefAt_any S p _ L _ HR1.out).mono ?_
    rintro e w2 ⟨rfl, hw2⟩
    obtain rfl := hw2.symm
    go_wp2_with fail
    refine (RefLeft_any S p _ L _ HR1.out).mono ?_
    rintro e w3 ⟨rfl, j3, rfl⟩
    go_wp2_with (refine wpList_store_row rfl _ _ _ rfl (w.heap.size + 1) #[.int .i64 x, .slice none 0 0, .int .i64 er, .int .i64 (b : Int), .int .i64 ((L.length : Int) - (b : Int))] rfl rfl _ _ (show (w1.drewN j3).heap[w.heap.size + 1]? = _ from HBX.out) (by kernel_rfl) rfl (by kernel_rfl) ?_)
    (try simp only [Exit.inBlock, Exit.then])
    refine bodyPost_ret (results_cell_row rfl _ _ (w.heap.size + 1) _ _ _ _ rfl (setRow_heap _ _ _ _ _ _ (show (w1.drewN j3).heap[w.heap.size + 1]? = _ from HBX.out)) Try.underlying65 rfl (by kernel_rfl)) rfl ?_
    have hW : RRd ((w1.drewN j3).setRow (w.heap.size + 1) #[.int .i64 x, .slice none 0 0, .int .i64 er, .int .i64 (b : Int), .int .i64 ((L.length : Int) - (b : Int))]) S p L b := (HR1.out.drew j3).fr (fr_setRow _ _ _) (fun e => by have := HPL.out; omega) (fun k hk e => by have := HSL.out k hk; omega)
    have hF : Fr (fun k => k = p) w ((w1.drewN j3).setRow (w.heap.size + 1) #[.int .i64 x, .slice none 0 0, .int .i64 er, .int .i64 (b : Int), .int .i64 ((L.length : Int) - (b : Int))]) := (HF1.out.trans (Fr.below (below_drewN (Below.refl _ _) j3) _)).next (fr_setRow _ _ _) (fun i hi e => by omega)
    rw [HN.out]
    exact ⟨_, fun _ => False, rfl, RB_nil _ _, fun _ h => h.elim, hW, hF⟩
  · have HN : Aside0 (rOp L a ⟨kind, v, n, A, co, B⟩ = ((rAlign L a : Int) - a, [], 0, rAlign L a)) := ⟨by unfold rOp; dsimp only; rw [hq]; rfl⟩
    have hq' : (kind : Int) % 7 = 4 := by omega
    have hcon := fun W h => RefAlign_any S p a L W h
    clear hq
    generalize rAlign L a = b at *
    have HCON := Aside0.mk hcon
    clear hcon
    go_enter Try.func35, Try.ntmps35
    go_wp2_with fail
    refine (HCON.out _ (HR.out.below (by (repeat (first | with_reducible exact Below.refl _ _ | (refine Aside0.out (p := Below _ _ _) ?_; assumption) | refine below_drew ?_ | refine below_alloc ?_ _ | (refine below_step ?_ (Aside0.out (p := Below _ _ _) (by assumption)))))))).mono ?_
    rintro e w1 ⟨rfl, hr1, hf1⟩
    have hbx := blk_fr (heap_alloc2_new w _ _) hf1 (by have := HPL.out; omega)
    have HBX := Aside0.mk hbx
    have HR1 := Aside0.mk hr1
    have HF1 : Aside0 (Fr (fun k => k = p) w w1) := ⟨(Fr.below (by (repeat (first | with_reducible exact Below.refl _ _ | (refine Aside0.out (p := Below _ _ _) ?_; assumption) | refine below_drew ?_ | refine below_alloc ?_ _ | (refine below_step ?_ (Aside0.out (p := Below _ _ _) (by assumption)))))) _).trans hf1⟩
    clear hr1 hf1 hbx
    go_wp2_with fail
    refine (RefAt_any S p _ L _ HR1.out).mono ?_
    rintro e w2 ⟨rfl, hw2⟩
    obtain rfl := hw2.symm
    go_wp2_with fail
    refine (RefLeft_any S p _ L _ HR1.out).mono ?_
    rintro e w3 ⟨rfl, j3, rfl⟩
    go_wp2_with (refine wpList_store_row rfl _ _ _ rfl (w.heap.size + 1) #[.int .i64 ((b : Int) - (a : Int)), .slice none 0 0, .int .i64 0, .int .i64 (b : Int), .int .i64 ((L.length : Int) - (b : Int))] rfl rfl _ _ (show (w1.drewN j3).heap[w.heap.size + 1]? = _ from HBX.out) (by kernel_rfl) rfl (by kernel_rfl) ?_)
    (try simp only [Exit.inBlock, Exit.then])
    refine bodyPost_ret (results_cell_row rfl _ _ (w.heap.size + 1) _ _ _ _ rfl (setRow_heap _ _ _ _ _ _ (show (w1.drewN j3).heap[w.heap.size + 1]? = _ from HBX.out)) Try.underlying65 rfl (by kernel_rfl)) rfl ?_
    have hW : RRd ((w1.drewN j3).setRow (w.heap.size + 1) #[.int .i64 ((b : Int) - (a : Int)), .slice none 0 0, .int .i64 0, .int .i64 (b : Int), .int .i64 ((L.length : Int) - (b : Int))]) S p L b := (HR1.out.drew j3).fr (fr_setRow _ _ _) (fun e => by have := HPL.out; omega) (fun k hk e => by have := HSL.out k hk; omega)
    have hF : Fr (fun k => k = p) w ((w1.drewN j3).setRow (w.heap.size + 1) #[.int .i64 ((b : Int) - (a : Int)), .slice none 0 0, .int .i64 0, .int .i64 (b : Int), .int .i64 ((L.length : Int) - (b : Int))]) := (HF1.out.trans (Fr.below (below_drewN (Below.refl _ _) j3) _)).next (fr_setRow _ _ _) (fun i hi e => by omega)
    rw [HN.out]
    exact ⟨_, fun _ => False, rfl, RB_nil _ _, fun _ h => h.elim, hW, hF⟩
  · have HN : Aside0 (rOp L a ⟨kind, v, n, A, co, B⟩ = (0, (rTake L a n).1, (rTake L a n).2.1, (rTake L a n).2.2)) := ⟨by unfold rOp; dsimp only; rw [hq]; rfl⟩
    have hq' : (kind : Int) % 7 = 5 := by omega
    have hcon := fun W h => RefTake_any S p a L n W h hn.2
    clear hq
    generalize rTake L a n = r at *
    obtain ⟨x, er, b⟩ := r
    dsimp only at *
    have HCON := Aside0.mk hcon
    clear hcon
    go_enter Try.func35, Try.ntmps35
    go_wp2_with fail
    refine (HCON.out _ (HR.out.below (by (repeat (first | with_reducible exact Below.refl _ _ | (refine Aside0.out (p := Below _ _ _) ?_; assumption) | refine below_drew ?_ | refine below_alloc ?_ _ | (refine below_step ?_ (Aside0.out (p := Below _ _ _) (by assumption)))))))).mono ?_
    rintro e w1 ⟨vt, St, rfl, hrt, hst, hr1, hf1⟩
    try dsimp only at hr1 hrt
    have HRT := Aside0.mk hrt
    obtain ⟨At, ct, evt⟩ := Kd.R_slice hrt
    subst evt
    have HST : Aside0 (∀ k, St k → w.heap.size + 2 ≤ k) := ⟨fun k hk => by have := hst k hk; simp at this; omega⟩
    clear hrt hst
    have hbx := blk_fr (heap_alloc2_new w _ _) hf1 (by have := HPL.out; omega)
    have HBX := Aside0.mk hbx
    have HR1 := Aside0.mk hr1
    have HF1 : Aside0 (Fr (fun k => k = p) w w1) := ⟨(Fr.below (by (repeat (first | with_reducible exact Below.refl _ _ | (refine Aside0.out (p := Below _ _ _) ?_; assumption) | refine below_drew ?_ | refine below_alloc ?_ _ | (refine below_step ?_ (Aside0.out (p := Below _ _ _) (by assumption)))))) _).trans hf1⟩
    clear hr1 hf1 hbx
    go_wp2_with fail
    refine (RefAt_any S p _ L _ HR1.out).mono ?_
    rintro e w2 ⟨rfl, hw2⟩
    obtain rfl := hw2.symm
    go_wp2_with fail
    refine (RefLeft_any S p _ L _ HR1.out).mono ?_
    rintro e w3 ⟨rfl, j3, rfl⟩
    go_wp2_with (refine wpList_store_row rfl _ _ _ rfl (w.heap.size + 1) #[.int .i64 0, .slice At (pk x).length ct, .int .i64 er, .int .i64 (b : Int), .int .i64 ((L.length : Int) - (b : Int))] rfl rfl _ _ (show (w1.drewN j3).heap[w.heap.size + 1]? = _ from HBX.out) (by kernel_rfl) rfl (by kernel_rfl) ?_)
    (try simp only [Exit.inBlock, Exit.then])
    refine bodyPost_ret (results_cell_row rfl _ _ (w.heap.size + 1) _ _ _ _ rfl (setRow_heap _ _ _ _ _ _ (show (w1.drewN j3).heap[w.heap.size + 1]? = _ from HBX.out)) Try.underlying65 rfl (by kernel_rfl)) rfl ?_
    have hW : RRd ((w1.drewN j3).setRow (w.heap.size + 1) #[.int .i64 0, .slice At (pk x).length ct, .int .i64 er, .int .i64 (b : Int), .int .i64 ((L.length : Int) - (b : Int))]) S p L b := (HR1.out.drew j3).fr (fr_setRow _ _ _) (fun e => by have := HPL.out; omega) (fun k hk e => by have := HSL.out k hk; omega)
    have hF : Fr (fun k => k = p) w ((w1.drewN j3).setRow (w.heap.size + 1) #[.int .i64 0, .slice At (pk x).length ct, .int .i64 er, .int .i64 (b : Int), .int .i64 ((L.length : Int) - (b : Int))]) := (HF1.out.trans (Fr.below (below_drewN (Below.refl _ _) j3) _)).next (fr_setRow _ _ _) (fun i hi e => by omega)
    rw [HN.out]
    exact ⟨_, St, rfl, R_fr (R_fr HRT.out (Fr.below (below_drewN (Below.refl _ _) j3) (fun _ => False)) (fun _ _ _ h => h)) (fr_setRow _ _ _) (fun k hk _ e => by have := HST.out k hk; omega), fun k hk => by have := HST.out k hk; omega, hW, hF⟩
  · have HN : Aside0 (rOp L a ⟨kind, v, n, A, co, B⟩ = (0, [], (rSeek L a n).1, (rSeek L a n).2)) := ⟨by unfold rOp; dsimp only; rw [hq]; rfl⟩
    have hq' : (kind : Int) % 7 = 6 := by omega
    have hcon := fun W h => RefSeek_any S p a L n W h
    clear hq
    generalize rSeek L a n = r at *
    obtain ⟨er, b⟩ := r
    dsimp only at *
    have HCON := Aside0.mk hcon
    clear hcon
    go_enter Try.func35, Try.ntmps35
    go_wp2_with fail
    refine (HCON.out _ (HR.out.below (by (repeat (first | with_reducible exact Below.refl _ _ | (refine Aside0.out (p := Below _ _ _) ?_; assumption) | refine below_drew ?_ | refine below_alloc ?_ _ | (refine below_step ?_ (Aside0.out (p := Below _ _ _) (by assumption)))))))).mono ?_
    rintro e w1 ⟨rfl, hr1, hf1⟩
    try dsimp only at hr1
    have hbx := blk_fr (heap_alloc2_new w _ _) hf1 (by have := HPL.out; omega)
    have HBX := Aside0.mk hbx
    have HR1 := Aside0.mk hr1
    have HF1 : Aside0 (Fr (fun k => k = p) w w1) := ⟨(Fr.below (by (repeat (first | with_reducible exact Below.refl _ _ | (refine Aside0.out (p := Below _ _ _) ?_; assumption) | refine below_drew ?_ | refine below_alloc ?_ _ | (refine below_step ?_ (Aside0.out (p := Below _ _ _) (by assumption)))))) _).trans hf1⟩
    clear hr1 hf1 hbx
    go_wp2_with fail
    refine (RefAt_any S p _ L _ HR1.out).mono ?_
    rintro e w2 ⟨rfl, hw2⟩
    obtain rfl := hw2.symm
    go_wp2_with fail
    refine (RefLeft_any S p _ L _ HR1.out).mono ?_
    rintro e w3 ⟨rfl, j3, rfl⟩
    go_wp2_with (refine wpList_store_row rfl _ _ _ rfl (w.heap.size + 1) #[.int .i64 0, .slice none 0 0, .int .i64 er, .int .i64 (b : Int), .int .i64 ((L.length : Int) - (b : Int))] rfl rfl _ _ (show (w1.drewN j3).heap[w.heap.size + 1]? = _ from HBX.out) (by kernel_rfl) rfl (by kernel_rfl) ?_)
    (try simp only [Exit.inBlock, Exit.then])
    refine bodyPost_ret (results_cell_row rfl _ _ (w.heap.size + 1) _ _ _ _ rfl (setRow_heap _ _ _ _ _ _ (show (w1.drewN j3).heap[w.heap.size + 1]? = _ from HBX.out)) Try.underlying65 rfl (by kernel_rfl)) rfl ?_
    have hW : RRd ((w1.drewN j3).setRow (w.heap.size + 1) #[.int .i64 0, .slice none 0 0, .int .i64 er, .int .i64 (b : Int), .int .i64 ((L.length : Int) - (b : Int))]) S p L b := (HR1.out.drew j3).fr (fr_setRow _ _ _) (fun e => by have := HPL.out; omega) (fun k hk e => by have := HSL.out k hk; omega)
    have hF : Fr (fun k => k = p) w ((w1.drewN j3).setRow (w.heap.size + 1) #[.int .i64 0, .slice none 0 0, .int .i64 er, .int .i64 (b : Int), .int .i64 ((L.length : Int) - (b : Int))]) := (HF1.out.trans (Fr.below (below_drewN (Below.refl _ _) j3) _)).next (fr_setRow _ _ _) (fun i hi e => by omega)
    rw [HN.out]
    exact ⟨_, fun _ => False, rfl, RB_nil _ _, fun _ h => h.elim, hW, hF⟩
end Go.Proofs.Ytmjekkkpbcehoaa.P
