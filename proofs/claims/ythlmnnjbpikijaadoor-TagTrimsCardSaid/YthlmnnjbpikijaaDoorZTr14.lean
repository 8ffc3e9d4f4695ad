/- The contract of tag.keyOf: the bytes of a string as a key, and whether it is one. -/
import Derived.Lib.LazyBuf
import Derived.Test.YthlmnnjbpikijaaDoorZTr13
import Derived.Test.YthlmnnjbpikijaaDoorZTr12
namespace Go.Proofs.YthlmnnjbpikijaaDoor.P
open Go.RowKit Go.Shelf Go.Proofs.YthlmnnjbpikijaaDoor.Bits Go.Proofs.YthlmnnjbpikijaaDoorW.PrintWords Go.Proofs.YthlmnnjbpikijaaDoorW.PrintLast Go.Proofs.YthlmnnjbpikijaaDoorW.PrintMore
set_option linter.unusedVariables false
set_option linter.unusedSimpArgs false
attribute [local go_sem ↓] Go.wp_at_zero Go.wp_at_succ
theorem wpList_run_copy {P : Program} {ops : Array Oper} {rest : List Oper} {o : Oper} {a : Act} {Q : Exit → Act → World → Prop} {W w1 : World} {v1 : Value} (hgd : o.guard = none) (s x : Operand) (t t' : TypeId)
    (ho : o.op = .call { callee := .builtin .copy, args := #[s, x], argTypes := #[t, t'] }) (v y : Value) (hs : a.eval s = v) (hx : a.eval x = y) (hrun : (Builtin.copy_ #[t, t'] o.type #[v, y]).run P W = .ok v1 w1) (h : wpList P ops Q rest (a.put o.dst v1) w1) :
    wpList P ops Q (o :: rest) a W := by
  refine wpList_plain hgd fun K hK => ?_
  unfold Oper.wp execOp
  simp only [ho, resolve, invoke, builtin, Sem.run_bind, Sem.run_pure, Result.andThen_ok, List.map_toArray, List.map_cons, List.map_nil, hs, hx, hrun]
  exact hK _ _ h
abbrev keyObj (a b c d : Int) : Obj := .cells #[.int .u8 a, .int .u8 b, .int .u8 c, .int .u8 d] 77 (0, 0)
theorem str4 {s : ByteArray} (h : s.size = 4) : s.data.toList.map (fun x => Value.int .u8 (x.toNat : Int)) = [.int .u8 (kb s 0), .int .u8 (kb s 1), .int .u8 (kb s 2), .int .u8 (kb s 3)] := by
  have hl : s.data.toList.length = 4 := by rw [data_length]; exact h
  have he : ∀ i : Nat, (hi : i < s.size) → ((s.data.toList[i]'(by rw [hl]; omega)).toNat : Int) = kb s (i : Int) := fun i hi => by
    unfold kb bt
    rw [if_pos h, dif_pos (show (i : Int).toNat < s.size from hi)]
    rfl
  apply List.ext_getElem
  · simp [hl]
  · intro i h1 h2
    have hi : i < s.size := by simpa [data_length] using h1
    have := he i hi
    rw [List.getElem_map]
    rw [this]
    have h4 : i = 0 ∨ i = 1 ∨ i = 2 ∨ i = 3 := by omega
    rcases h4 with rfl | rfl | rfl | rfl <;> rfl
/-- What the copy of a string into a key's variable does. -/
theorem copy_key (s : ByteArray) (h : s.size = 4) (ty : TypeId) (W : World) (b : Nat) (hb : W.heap[b]? = some (keyObj 0 0 0 0)) :
    ∃ W2, (Builtin.copy_ #[27, 9] ty #[.slice (some ⟨b, 0, none⟩) 4 4, .string s]).run Tryd.prog W = .ok (goInt 4) W2 ∧ W2.heap[b]? = some (keyObj (kb s 0) (kb s 1) (kb s 2) (kb s 3)) ∧ Fr (fun k => k = b) W W2 := by
  have hrun := run_copy_string (P := Tryd.prog) W 27 9 ty 5 b 0 4 4 s Tryd.underlying27 (fun _ => by kernel_rfl) (by omega) (fun j hj => by
    rw [cell_of_row _ _ _ _ _ _ hb]
    have : j = 0 ∨ j = 1 ∨ j = 2 ∨ j = 3 := by omega
    rcases this with rfl | rfl | rfl | rfl <;> rfl) (fun j hj => blk_frozen hb _)
  rw [str4 h, h] at hrun
  have h1 := heap_setCell_same W b 0 _ _ (.int .u8 (kb s 0)) hb
  have h2 := heap_setCell_same _ b 1 _ _ (.int .u8 (kb s 1)) h1
  have h3 := heap_setCell_same _ b 2 _ _ (.int .u8 (kb s 2)) h2
  have h4 := heap_setCell_same _ b 3 _ _ (.int .u8 (kb s 3)) h3
  refine ⟨_, hrun, h4, ?_⟩
  have f := fun (X Y : World) (h : Fr (fun k => k = b) X Y) (j : Nat) (v : Value) => Fr.setCell (S := fun k => k = b) h (p := ⟨b, j, none⟩) (fun _ => rfl) v
  exact f _ _ (f _ _ (f _ _ (f _ _ (Fr.refl _ _) 0 _) 1 _) 2 _) 3 _
set_option maxRecDepth 100000 in
theorem key_ix (a b c d : Int) (k : Nat) (hk : k < 4) : ∀ w : World, (Instr.index 77 (K4 a b c d) (.int .i64 (k : Int))).run Tryd.prog w = .ok (.int .u8 (if k = 0 then a else if k = 1 then b else if k = 2 then c else d)) w := by
  have h4 : k = 0 ∨ k = 1 ∨ k = 2 ∨ k = 3 := by omega
  rcases h4 with rfl | rfl | rfl | rfl <;> exact fun _ => by kernel_rfl
theorem fr_setRow (w : World) (g : Nat) (cs : Array Value) : Fr (fun k => k = g) w (w.setRow g cs) := ⟨rfl, rfl, rfl, by simp, fun k _ h => setRow_other w g k cs h⟩
theorem key_one (s : ByteArray) (h : s.size = 4) (k : Nat) (hk : k < 4) : (if k = 0 then kb s 0 else if k = 1 then kb s 1 else if k = 2 then kb s 2 else kb s 3) = bt s (k : Int) := by
  have h4 : k = 0 ∨ k = 1 ∨ k = 2 ∨ k = 3 := by omega
  unfold kb
  rcases h4 with rfl | rfl | rfl | rfl <;> simp [h]
theorem keyOk_iff (s : ByteArray) (h : s.size = 4) : keyOk s = true ↔ ∀ j : Nat, j < 4 → okC (bt s (j : Int)) = true := by
  unfold keyOk
  rw [decide_eq_true h, Bool.true_and]
  constructor
  · intro q j hj
    simp only [Bool.and_eq_true] at q
    have h4 : j = 0 ∨ j = 1 ∨ j = 2 ∨ j = 3 := by omega
    rcases h4 with rfl | rfl | rfl | rfl
    · exact q.1.1.1
    · exact q.1.1.2
    · exact q.1.2
    · exact q.2
  · intro q
    have h0 := q 0 (by omega); have h1 := q 1 (by omega); have h2 := q 2 (by omega); have h3 := q 3 (by omega)
    simp only [Bool.and_eq_true]
    exact ⟨⟨⟨h0, h1⟩, h2⟩, h3⟩
set_option maxHeartbeats 4000000 in
set_option maxRecDepth 100000 in
theorem keyOf_any (s : ByteArray) (w : World) : Calls Tryd.prog 49 #[.string s] w fun e w' => e = .returned (.tuple #[KV s, .bool (keyOk s)]) ∧ Below w.heap.size w w' := by
  by_cases h4 : s.size = 4
  · have hcp := copy_key s h4
    have hk1 := key_one s h4
    have hki := keyOk_iff s h4
    have q : ((s.size : Int) != 4) = false := by rw [h4]; rfl
    obtain ⟨a0, e0⟩ : ∃ x, kb s 0 = x := ⟨_, rfl⟩
    obtain ⟨a1, e1⟩ : ∃ x, kb s 1 = x := ⟨_, rfl⟩
    obtain ⟨a2, e2⟩ : ∃ x, kb s 2 = x := ⟨_, rfl⟩
    obtain ⟨a3, e3⟩ : ∃ x, kb s 3 = x := ⟨_, rfl⟩
    rw [e0, e1, e2, e3] at hcp
    simp only [e0, e1, e2, e3] at hk1
    unfold KV
    rw [e0, e1, e2, e3]
    have HCP := Aside0.mk hcp
    have HK1 := Aside0.mk hk1
    have HKI := Aside0.mk hki
    obtain ⟨ok, eok⟩ : ∃ x, keyOk s = x := ⟨_, rfl⟩
    have HOK := Aside0.mk eok
    rw [eok]
    clear hcp hk1 hki h4 e0 e1 e2 e3 eok
    obtain ⟨w1, hw1⟩ : ∃ w1, w1 = (w.alloc (keyObj 0 0 0 0)).alloc (keyObj 0 0 0 0) := ⟨_, rfl⟩
    have hb1 : w1.heap[w.heap.size + 1]? = some (keyObj 0 0 0 0) := by rw [hw1]; have := World.alloc_heap_new (w.alloc (keyObj 0 0 0 0)) (keyObj 0 0 0 0); simpa using this
    obtain ⟨w2, hc1, hb2, hf2⟩ := HCP.out 3 w1 (w.heap.size + 1) hb1
    have hf1 := (Fr.below (below_alloc (below_alloc (Below.refl w.heap.size w) (keyObj 0 0 0 0)) (keyObj 0 0 0 0)) (fun k => k = w.heap.size + 1))
    rw [← hw1] at hf1
    have hb0 : w1.heap[w.heap.size]? = some (keyObj 0 0 0 0) := by rw [hw1]; exact blk_alloc' (World.alloc_heap_new w _) _
    have hb20 : w2.heap[w.heap.size]? = some (keyObj 0 0 0 0) := (hf2.block _ (lt_of_block hb0) (by omega)).trans hb0
    have hbl : Below w.heap.size w w2 := (hf1.trans hf2).to_below (Nat.le_refl _) (fun j hj => by subst hj; omega)
    rw [hw1] at hc1
    have HC1 := Aside0.mk hc1
    have c0 : w2.cell? ⟨w.heap.size + 1, 0, none⟩ = some (.int .u8 a0) := by rw [cell_of_row _ _ _ _ _ _ hb2]; rfl
    have c1 : w2.cell? ⟨w.heap.size + 1, 1, none⟩ = some (.int .u8 a1) := by rw [cell_of_row _ _ _ _ _ _ hb2]; rfl
    have c2 : w2.cell? ⟨w.heap.size + 1, 2, none⟩ = some (.int .u8 a2) := by rw [cell_of_row _ _ _ _ _ _ hb2]; rfl
    have c3 : w2.cell? ⟨w.heap.size + 1, 3, none⟩ = some (.int .u8 a3) := by rw [cell_of_row _ _ _ _ _ _ hb2]; rfl
    have HB2 := Aside0.mk hb2
    have HB20 := Aside0.mk hb20
    have HBL := Aside0.mk hbl
    obtain ⟨b0, eb0⟩ : ∃ b0, b0 = w.heap.size := ⟨_, rfl⟩
    have HB0 := Aside0.mk eb0
    clear hw1 hb1 hc1 hf1 hb0 hf2 hb2 hb20 hbl HCP eb0
    go_enter Tryd.func49, Tryd.ntmps49
    go_wp2_with (refine wpList_run_copy rfl _ _ _ _ rfl _ _ rfl rfl HC1.out ?_)
    go_loop [15] (fun i => ∃ k : Nat, i = .int .i64 (k : Int) ∧ k ≤ 4 ∧ Aside0 (∀ j : Nat, j < k → okC (bt s (j : Int)) = true)) (fun i => 4 - (intOf i).toNat)
    case atStart => exact ⟨0, rfl, Nat.zero_le _, ⟨fun j hj => by omega⟩⟩
    case round =>
      obtain ⟨k, rfl, hk, HN⟩ := hrel
      by_cases hlt : k < 4
      · have hix := key_ix a0 a1 a2 a3 k hlt
        have hx := HK1.out k hlt
        generalize (if k = 0 then a0 else if k = 1 then a1 else if k = 2 then a2 else a3) = x at *
        have HX := Aside0.mk hx
        clear hx
        have hcs : (x < 48 ∨ 57 < x ∧ x < 65 ∨ 90 < x) ∨ (48 ≤ x ∧ x ≤ 57 ∨ 65 ≤ x ∧ x ≤ 90) := by omega
        rcases hcs with h | h
        · have HE : Aside0 (ok = false) := ⟨by
            rw [← HOK.out]
            cases e : keyOk s with
            | false => rfl
            | true =>
              have := HKI.out.1 e k hlt
              rw [← HX.out] at this
              unfold okC at this
              simp at this
              omega⟩
          rcases h with h | h | h
          · have d0 : decide (x < 65) = true := decide_eq_true (by omega)
            have d1 : decide (x < 48) = true := decide_eq_true (by omega)
            clear h
            go_wp2_with (refine wpList_store_row rfl _ _ _ rfl w.heap.size #[.int .u8 a0, .int .u8 a1, .int .u8 a2, .int .u8 a3] rfl rfl _ _ HB20.out (by kernel_rfl) rfl (by kernel_rfl) ?_)
            refine bodyPost_ret (results_ct rfl _ _ w.heap.size _ #[.int .u8 a0, .int .u8 a1, .int .u8 a2, .int .u8 a3] (0, 0) _ rfl (setRow_heap _ _ _ _ _ _ HB20.out) Tryd.underlying77 rfl (by kernel_rfl)) rfl ?_
            exact ⟨by rw [HE.out]; rfl, HBL.out.trans ((fr_setRow w2 _ _).to_below HBL.out.size (fun j hj => by subst hj; exact Nat.le_refl _))⟩
          · have d0 : decide (x < 65) = true := decide_eq_true (by omega)
            have d1 : decide (x < 48) = false := decide_eq_false (by omega)
            have d2 : decide (57 < x) = true := decide_eq_true (by omega)
            clear h
            go_wp2_with (refine wpList_store_row rfl _ _ _ rfl w.heap.size #[.int .u8 a0, .int .u8 a1, .int .u8 a2, .int .u8 a3] rfl rfl _ _ HB20.out (by kernel_rfl) rfl (by kernel_rfl) ?_)
            refine bodyPost_ret (results_ct rfl _ _ w.heap.size _ #[.int .u8 a0, .int .u8 a1, .int .u8 a2, .int .u8 a3] (0, 0) _ rfl (setRow_heap _ _ _ _ _ _ HB20.out) Tryd.underlying77 rfl (by kernel_rfl)) rfl ?_
            exact ⟨by rw [HE.out]; rfl, HBL.out.trans ((fr_setRow w2 _ _).to_below HBL.out.size (fun j hj => by subst hj; exact Nat.le_refl _))⟩
          · have d0 : decide (x < 65) = false := decide_eq_false (by omega)
            have d1 : decide (90 < x) = true := decide_eq_true (by omega)
            have d2 : decide (x < 48) = false := decide_eq_false (by omega)
            have d3 : decide (57 < x) = true := decide_eq_true (by omega)
            clear h
            go_wp2_with (refine wpList_store_row rfl _ _ _ rfl w.heap.size #[.int .u8 a0, .int .u8 a1, .int .u8 a2, .int .u8 a3] rfl rfl _ _ HB20.out (by kernel_rfl) rfl (by kernel_rfl) ?_)
            refine bodyPost_ret (results_ct rfl _ _ w.heap.size _ #[.int .u8 a0, .int .u8 a1, .int .u8 a2, .int .u8 a3] (0, 0) _ rfl (setRow_heap _ _ _ _ _ _ HB20.out) Tryd.underlying77 rfl (by kernel_rfl)) rfl ?_
            exact ⟨by rw [HE.out]; rfl, HBL.out.trans ((fr_setRow w2 _ _).to_below HBL.out.size (fun j hj => by subst hj; exact Nat.le_refl _))⟩
        · have HN2 : Aside0 (∀ j : Nat, j < k + 1 → okC (bt s (j : Int)) = true) := ⟨fun j hj => by
            by_cases hjk : j = k
            · subst hjk
              rw [← HX.out]
              unfold okC
              simp
              omega
            · exact HN.out j (by omega)⟩
          rcases h with ⟨h1, h2⟩ | ⟨h1, h2⟩
          · have d1 : decide (x < 65) = true := decide_eq_true (by omega)
            have d2 : decide (x < 48) = false := decide_eq_false (by omega)
            have d3 : decide (57 < x) = false := decide_eq_false (by omega)
            clear h1 h2
            go_wp2_with fail
            go_round
            case rel => exact ⟨k + 1, by go_num, by omega, HN2⟩
            case measure => simp [intOf]; omega
          · have d1 : decide (x < 65) = false := decide_eq_false (by omega)
            have d2 : decide (90 < x) = false := decide_eq_false (by omega)
            clear h1 h2
            go_wp2_with fail
            go_round
            case rel => exact ⟨k + 1, by go_num, by omega, HN2⟩
            case measure => simp [intOf]; omega
      · obtain rfl : k = 4 := by omega
        have HE : Aside0 (ok = true) := ⟨by rw [← HOK.out]; exact HKI.out.2 HN.out⟩
        go_wp2_with (refine wpList_store_row rfl _ _ _ rfl w.heap.size #[.int .u8 a0, .int .u8 a1, .int .u8 a2, .int .u8 a3] rfl rfl _ _ HB20.out (by kernel_rfl) rfl (by kernel_rfl) ?_)
        refine bodyPost_ret (results_ct rfl _ _ w.heap.size _ #[.int .u8 a0, .int .u8 a1, .int .u8 a2, .int .u8 a3] (0, 0) _ rfl (setRow_heap _ _ _ _ _ _ HB20.out) Tryd.underlying77 rfl (by kernel_rfl)) rfl ?_
        exact ⟨by rw [HE.out]; rfl, HBL.out.trans ((fr_setRow w2 _ _).to_below HBL.out.size (fun j hj => by subst hj; exact Nat.le_refl _))⟩
  · have q : ((s.size : Int) != 4) = true := bne_iff_ne.2 (by omega)
    have e : ∀ i, kb s i = 0 := fun i => by unfold kb; rw [if_neg h4]
    have ek : keyOk s = false := by unfold keyOk; rw [decide_eq_false h4]; rfl
    unfold KV
    rw [e, e, e, e, ek]
    clear h4 e ek
    have HB := Aside0.mk (Below.refl w.heap.size w)
    go_enter Tryd.func49, Tryd.ntmps49
    go_wp2_with fail
    refine bodyPost_ret (results_ct rfl _ _ w.heap.size _ #[.int .u8 0, .int .u8 0, .int .u8 0, .int .u8 0] (0, 0) _ rfl (blk_alloc' (World.alloc_heap_new w _) _) Tryd.underlying77 rfl (by kernel_rfl)) rfl ?_
    exact ⟨rfl, below_alloc (below_alloc HB.out _) _⟩
end Go.Proofs.YthlmnnjbpikijaaDoor.P
