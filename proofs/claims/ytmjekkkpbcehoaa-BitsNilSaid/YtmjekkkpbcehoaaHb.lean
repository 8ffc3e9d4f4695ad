/- Calls of no writer and of no reader, as the law makes them. -/
import Derived.Test.YtmjekkkpbcehoaaHa
import Derived.Test.YtmjekkkpbcehoaaEe
namespace Go.Proofs.Ytmjekkkpbcehoaa.P
open Go.RowKit Go.Shelf Go.Proofs.Ytmjekkkpbcehoaa.Bits Go.Proofs.YtmjekkkpbcehoaaW.PrintWords Go.Proofs.YtmjekkkpbcehoaaW.PrintLast Go.Proofs.YtmjekkkpbcehoaaW.PrintMore
set_option linter.unusedVariables false
set_option linter.unusedSimpArgs false
attribute [local go_sem ↓] Go.wp_at_zero Go.wp_at_succ

set_option maxHeartbeats 2000000 in
set_option maxRecDepth 100000 in
theorem write_nil (o : OpD) (w : World) (hk : o.kind < 256) :
    Calls Try.prog 20 #[.pointer none, o.val] w fun e w' => e = .returned (.int .i64 1) ∧ Below w.heap.size w w' := by
  obtain ⟨kind, v, n, A, co, B⟩ := o
  dsimp only [OpD.val] at *
  have hk6 : kind % 6 = 0 ∨ kind % 6 = 1 ∨ kind % 6 = 2 ∨ kind % 6 = 3 ∨ kind % 6 = 4 ∨ kind % 6 = 5 := by omega
  rcases hk6 with hq | hq | hq | hq | hq | hq
  · have hq' : (kind : Int) % 6 = 0 := by omega
    clear hq
    go_enter Try.func20, Try.ntmps20
    go_wp2_with fail
    refine (nilPut v n _).mono ?_
    rintro e w2 ⟨rfl, hw⟩
    obtain rfl := hw.symm
    go_wp2_with fail
    go_ret
    exact ⟨rfl, by (repeat (first | with_reducible exact Below.refl _ _ | (refine Aside0.out (p := Below _ _ _) ?_; assumption) | refine below_drew ?_ | refine below_alloc ?_ _ | (refine below_step ?_ (Aside0.out (p := Below _ _ _) (by assumption)))))⟩
  · have hq' : (kind : Int) % 6 = 1 := by omega
    clear hq
    go_enter Try.func20, Try.ntmps20
    go_wp2_with fail
    refine (nilSigned v n _).mono ?_
    rintro e w2 ⟨rfl, hw⟩
    obtain rfl := hw.symm
    go_wp2_with fail
    go_ret
    exact ⟨rfl, by (repeat (first | with_reducible exact Below.refl _ _ | (refine Aside0.out (p := Below _ _ _) ?_; assumption) | refine below_drew ?_ | refine below_alloc ?_ _ | (refine below_step ?_ (Aside0.out (p := Below _ _ _) (by assumption)))))⟩
  · have hq' : (kind : Int) % 6 = 2 := by omega
    clear hq
    go_enter Try.func20, Try.ntmps20
    go_wp2_with fail
    refine (nilUnary v _).mono ?_
    rintro e w2 ⟨rfl, hw⟩
    obtain rfl := hw.symm
    go_wp2_with fail
    go_ret
    exact ⟨rfl, by (repeat (first | with_reducible exact Below.refl _ _ | (refine Aside0.out (p := Below _ _ _) ?_; assumption) | refine below_drew ?_ | refine below_alloc ?_ _ | (refine below_step ?_ (Aside0.out (p := Below _ _ _) (by assumption)))))⟩
  · have hq' : (kind : Int) % 6 = 3 := by omega
    clear hq
    go_enter Try.func20, Try.ntmps20
    go_wp2_with fail
    refine (nilGamma v _).mono ?_
    rintro e w2 ⟨rfl, hw⟩
    obtain rfl := hw.symm
    go_wp2_with fail
    go_ret
    exact ⟨rfl, by (repeat (first | with_reducible exact Below.refl _ _ | (refine Aside0.out (p := Below _ _ _) ?_; assumption) | refine below_drew ?_ | refine below_alloc ?_ _ | (refine below_step ?_ (Aside0.out (p := Below _ _ _) (by assumption)))))⟩
  · have hq' : (kind : Int) % 6 = 4 := by omega
    clear hq
    go_enter Try.func20, Try.ntmps20
    go_wp2_with fail
    refine (nilAlign v _).mono ?_
    rintro e w2 ⟨rfl, hw⟩
    obtain rfl := hw.symm
    go_wp2_with fail
    go_ret
    exact ⟨rfl, by (repeat (first | with_reducible exact Below.refl _ _ | (refine Aside0.out (p := Below _ _ _) ?_; assumption) | refine below_drew ?_ | refine below_alloc ?_ _ | (refine below_step ?_ (Aside0.out (p := Below _ _ _) (by assumption)))))⟩
  · have hq' : (kind : Int) % 6 = 5 := by omega
    clear hq
    go_enter Try.func20, Try.ntmps20
    go_wp2_with fail
    refine (nilAppend A B.length co n _).mono ?_
    rintro e w2 ⟨rfl, hw⟩
    obtain rfl := hw.symm
    go_wp2_with fail
    go_ret
    exact ⟨rfl, by (repeat (first | with_reducible exact Below.refl _ _ | (refine Aside0.out (p := Below _ _ _) ?_; assumption) | refine below_drew ?_ | refine below_alloc ?_ _ | (refine below_step ?_ (Aside0.out (p := Below _ _ _) (by assumption)))))⟩

theorem below_alloc2_set (w : World) (o1 o2 : Obj) (g : Nat) (cs : Array Value) (h : w.heap.size ≤ g) : Below w.heap.size w (((w.alloc o1).alloc o2).setRow g cs) := by
  have hb : Below w.heap.size w ((w.alloc o1).alloc o2) := by (repeat (first | with_reducible exact Below.refl _ _ | (refine Aside0.out (p := Below _ _ _) ?_; assumption) | refine below_drew ?_ | refine below_alloc ?_ _ | (refine below_step ?_ (Aside0.out (p := Below _ _ _) (by assumption)))))
  exact hb.trans ((fr_setRow _ _ _).to_below hb.size (fun j hj => by omega))
/-- What a call of no reader gives. -/
def nilE (k : Nat) : Int := if k % 7 = 4 then 0 else 1
set_option maxHeartbeats 2000000 in
set_option maxRecDepth 100000 in
theorem read_nil (o : OpD) (w : World) (hk : o.kind < 256) :
    Calls Try.prog 34 #[.pointer none, o.val] w fun e w' => e = .returned (.agg #[.int .i64 0, .slice none 0 0, .int .i64 (nilE o.kind), .int .i64 0, .int .i64 0]) ∧ Below w.heap.size w w' := by
  obtain ⟨kind, v, n, A, co, B⟩ := o
  dsimp only [OpD.val] at *
  have hk7 : kind % 7 = 0 ∨ kind % 7 = 1 ∨ kind % 7 = 2 ∨ kind % 7 = 3 ∨ kind % 7 = 4 ∨ kind % 7 = 5 ∨ kind % 7 = 6 := by omega
  rcases hk7 with hq | hq | hq | hq | hq | hq | hq
  · have hq' : (kind : Int) % 7 = 0 := by omega
    have HN : Aside0 (nilE kind = 1) := ⟨by unfold nilE; rw [hq]; rfl⟩
    clear hq
    go_enter Try.func34, Try.ntmps34
    go_wp2_with fail
    refine (nilRGet n _).mono ?_
    rintro e w2 ⟨rfl, hw⟩
    obtain rfl := hw.symm
    go_wp2_with fail
    refine (nilRAt _).mono ?_
    rintro e w3 ⟨rfl, hw⟩
    obtain rfl := hw.symm
    go_wp2_with fail
    refine (nilRLeft _).mono ?_
    rintro e w4 ⟨rfl, hw⟩
    obtain rfl := hw.symm
    go_wp2_with (refine wpList_store_row rfl _ _ _ rfl (w.heap.size + 1) #[.int .i64 0, .slice none 0 0, .int .i64 1, .int .i64 0, .int .i64 0] rfl rfl _ _ (heap_alloc2_new w _ _) (by kernel_rfl) rfl (by kernel_rfl) ?_)
    (try simp only [Exit.inBlock, Exit.then])
    refine bodyPost_ret (results_cell_row rfl _ _ (w.heap.size + 1) _ _ _ _ rfl (setRow_heap _ _ _ _ _ _ (heap_alloc2_new w _ _)) Try.underlying65 rfl (by kernel_rfl)) rfl ?_
    rw [HN.out]
    exact ⟨rfl, below_alloc2_set _ _ _ _ _ (by omega)⟩
  · have hq' : (kind : Int) % 7 = 1 := by omega
    have HN : Aside0 (nilE kind = 1) := ⟨by unfold nilE; rw [hq]; rfl⟩
    clear hq
    go_enter Try.func34, Try.ntmps34
    go_wp2_with fail
    refine (nilRSigned n _).mono ?_
    rintro e w2 ⟨rfl, hw⟩
    obtain rfl := hw.symm
    go_wp2_with fail
    refine (nilRAt _).mono ?_
    rintro e w3 ⟨rfl, hw⟩
    obtain rfl := hw.symm
    go_wp2_with fail
    refine (nilRLeft _).mono ?_
    rintro e w4 ⟨rfl, hw⟩
    obtain rfl := hw.symm
    go_wp2_with (refine wpList_store_row rfl _ _ _ rfl (w.heap.size + 1) #[.int .i64 0, .slice none 0 0, .int .i64 1, .int .i64 0, .int .i64 0] rfl rfl _ _ (heap_alloc2_new w _ _) (by kernel_rfl) rfl (by kernel_rfl) ?_)
    (try simp only [Exit.inBlock, Exit.then])
    refine bodyPost_ret (results_cell_row rfl _ _ (w.heap.size + 1) _ _ _ _ rfl (setRow_heap _ _ _ _ _ _ (heap_alloc2_new w _ _)) Try.underlying65 rfl (by kernel_rfl)) rfl ?_
    rw [HN.out]
    exact ⟨rfl, below_alloc2_set _ _ _ _ _ (by omega)⟩
  · have hq' : (kind : Int) % 7 = 2 := by omega
    have HN : Aside0 (nilE kind = 1) := ⟨by unfold nilE; rw [hq]; rfl⟩
    clear hq
    go_enter Try.func34, Try.ntmps34
    go_wp2_with fail
    refine (nilRUnary n _).mono ?_
    rintro e w2 ⟨rfl, hw⟩
    obtain rfl := hw.symm
    go_wp2_with fail
    refine (nilRAt _).mono ?_
    rintro e w3 ⟨rfl, hw⟩
    obtain rfl := hw.symm
    go_wp2_with fail
    refine (nilRLeft _).mono ?_
    rintro e w4 ⟨rfl, hw⟩
    obtain rfl := hw.symm
    go_wp2_with (refine wpList_store_row rfl _ _ _ rfl (w.heap.size + 1) #[.int .i64 0, .slice none 0 0, .int .i64 1, .int .i64 0, .int .i64 0] rfl rfl _ _ (heap_alloc2_new w _ _) (by kernel_rfl) rfl (by kernel_rfl) ?_)
    (try simp only [Exit.inBlock, Exit.then])
    refine bodyPost_ret (results_cell_row rfl _ _ (w.heap.size + 1) _ _ _ _ rfl (setRow_heap _ _ _ _ _ _ (heap_alloc2_new w _ _)) Try.underlying65 rfl (by kernel_rfl)) rfl ?_
    rw [HN.out]
    exact ⟨rfl, below_alloc2_set _ _ _ _ _ (by omega)⟩
  · have hq' : (kind : Int) % 7 = 3 := by omega
    have HN : Aside0 (nilE kind = 1) := ⟨by unfold nilE; rw [hq]; rfl⟩
    clear hq
    go_enter Try.func34, Try.ntmps34
    go_wp2_with fail
    refine (nilRGamma _).mono ?_
    rintro e w2 ⟨rfl, hw⟩
    obtain rfl := hw.symm
    go_wp2_with fail
    refine (nilRAt _).mono ?_
    rintro e w3 ⟨rfl, hw⟩
    obtain rfl := hw.symm
    go_wp2_with fail
    refine (nilRLeft _).mono ?_
    rintro e w4 ⟨rfl, hw⟩
    obtain rfl := hw.symm
    go_wp2_with (refine wpList_store_row rfl _ _ _ rfl (w.heap.size + 1) #[.int .i64 0, .slice none 0 0, .int .i64 1, .int .i64 0, .int .i64 0] rfl rfl _ _ (heap_alloc2_new w _ _) (by kernel_rfl) rfl (by kernel_rfl) ?_)
    (try simp only [Exit.inBlock, Exit.then])
    refine bodyPost_ret (results_cell_row rfl _ _ (w.heap.size + 1) _ _ _ _ rfl (setRow_heap _ _ _ _ _ _ (heap_alloc2_new w _ _)) Try.underlying65 rfl (by kernel_rfl)) rfl ?_
    rw [HN.out]
    exact ⟨rfl, below_alloc2_set _ _ _ _ _ (by omega)⟩
  · have hq' : (kind : Int) % 7 = 4 := by omega
    have HN : Aside0 (nilE kind = 0) := ⟨by unfold nilE; rw [hq]; rfl⟩
    clear hq
    go_enter Try.func34, Try.ntmps34
    go_wp2_with fail
    refine (nilRAlign _).mono ?_
    rintro e w2 ⟨rfl, hw⟩
    obtain rfl := hw.symm
    go_wp2_with fail
    refine (nilRAt _).mono ?_
    rintro e w3 ⟨rfl, hw⟩
    obtain rfl := hw.symm
    go_wp2_with fail
    refine (nilRLeft _).mono ?_
    rintro e w4 ⟨rfl, hw⟩
    obtain rfl := hw.symm
    go_wp2_with (refine wpList_store_row rfl _ _ _ rfl (w.heap.size + 1) #[.int .i64 0, .slice none 0 0, .int .i64 0, .int .i64 0, .int .i64 0] rfl rfl _ _ (heap_alloc2_new w _ _) (by kernel_rfl) rfl (by kernel_rfl) ?_)
    (try simp only [Exit.inBlock, Exit.then])
    refine bodyPost_ret (results_cell_row rfl _ _ (w.heap.size + 1) _ _ _ _ rfl (setRow_heap _ _ _ _ _ _ (heap_alloc2_new w _ _)) Try.underlying65 rfl (by kernel_rfl)) rfl ?_
    rw [HN.out]
    exact ⟨rfl, below_alloc2_set _ _ _ _ _ (by omega)⟩
  · have hq' : (kind : Int) % 7 = 5 := by omega
    have HN : Aside0 (nilE kind = 1) := ⟨by unfold nilE; rw [hq]; rfl⟩
    clear hq
    go_enter Try.func34, Try.ntmps34
    go_wp2_with fail
    refine (nilRTake n _).mono ?_
    rintro e w2 ⟨rfl, hw⟩
    obtain rfl := hw.symm
    go_wp2_with fail
    refine (nilRAt _).mono ?_
    rintro e w3 ⟨rfl, hw⟩
    obtain rfl := hw.symm
    go_wp2_with fail
    refine (nilRLeft _).mono ?_
    rintro e w4 ⟨rfl, hw⟩
    obtain rfl := hw.symm
    go_wp2_with (refine wpList_store_row rfl _ _ _ rfl (w.heap.size + 1) #[.int .i64 0, .slice none 0 0, .int .i64 1, .int .i64 0, .int .i64 0] rfl rfl _ _ (heap_alloc2_new w _ _) (by kernel_rfl) rfl (by kernel_rfl) ?_)
    (try simp only [Exit.inBlock, Exit.then])
    refine bodyPost_ret (results_cell_row rfl _ _ (w.heap.size + 1) _ _ _ _ rfl (setRow_heap _ _ _ _ _ _ (heap_alloc2_new w _ _)) Try.underlying65 rfl (by kernel_rfl)) rfl ?_
    rw [HN.out]
    exact ⟨rfl, below_alloc2_set _ _ _ _ _ (by omega)⟩
  · have hq' : (kind : Int) % 7 = 6 := by omega
    have HN : Aside0 (nilE kind = 1) := ⟨by unfold nilE; rw [hq]; rfl⟩
    clear hq
    go_enter Try.func34, Try.ntmps34
    go_wp2_with fail
    refine (nilRSeek n _).mono ?_
    rintro e w2 ⟨rfl, hw⟩
    obtain rfl := hw.symm
    go_wp2_with fail
    refine (nilRAt _).mono ?_
    rintro e w3 ⟨rfl, hw⟩
    obtain rfl := hw.symm
    go_wp2_with fail
    refine (nilRLeft _).mono ?_
    rintro e w4 ⟨rfl, hw⟩
    obtain rfl := hw.symm
    go_wp2_with (refine wpList_store_row rfl _ _ _ rfl (w.heap.size + 1) #[.int .i64 0, .slice none 0 0, .int .i64 1, .int .i64 0, .int .i64 0] rfl rfl _ _ (heap_alloc2_new w _ _) (by kernel_rfl) rfl (by kernel_rfl) ?_)
    (try simp only [Exit.inBlock, Exit.then])
    refine bodyPost_ret (results_cell_row rfl _ _ (w.heap.size + 1) _ _ _ _ rfl (setRow_heap _ _ _ _ _ _ (heap_alloc2_new w _ _)) Try.underlying65 rfl (by kernel_rfl)) rfl ?_
    rw [HN.out]
    exact ⟨rfl, below_alloc2_set _ _ _ _ _ (by omega)⟩
end Go.Proofs.Ytmjekkkpbcehoaa.P
