/- The map of places: what its look-up and its store do. The contracts of tag.places, tag.Check. The contracts of tag.Check and tag.Get. The contract of tag.isSound. The contract of shawmref27.Same at tags that are the same. -/
import Derived.ChangeKeysEq
import Derived.WideKeyRuns
import Derived.MapKept
import Derived.Maps.OwnOps
import Derived.Test.YthlmnnjbpikijaaDoorZTr14
import Derived.Test.YthlmnnjbpikijaaDoorZTr12
import Derived.Test.YthlmnnjbpikijaaDoorZTr10
import Derived.Test.YthlmnnjbpikijaaDoorZTr4
section
namespace Go.Proofs.YthlmnnjbpikijaaDoor.P
open Go.RowKit Go.Shelf Go.Proofs.YthlmnnjbpikijaaDoor.Bits Go.Proofs.YthlmnnjbpikijaaDoorW.PrintWords Go.Proofs.YthlmnnjbpikijaaDoorW.PrintLast Go.Proofs.YthlmnnjbpikijaaDoorW.PrintMore
set_option linter.unusedVariables false
set_option linter.unusedSimpArgs false
attribute [local go_sem ↓] Go.wp_at_zero Go.wp_at_succ
def entsFrom : Nat → List S56 → List MapEntry
  | _, [] => []
  | i, f :: l => { key := KV f.f0, val := .int .i64 (i : Int), born := i } :: entsFrom (i + 1) l
theorem entsFrom_snoc : ∀ (l : List S56) (i : Nat) (f : S56), entsFrom i (l ++ [f]) = entsFrom i l ++ [{ key := KV f.f0, val := .int .i64 ((i + l.length : Nat) : Int), born := i + l.length }]
  | [], i, f => rfl
  | g :: l, i, f => by
    rw [List.cons_append, entsFrom, entsFrom, entsFrom_snoc l (i + 1) f, List.cons_append, List.length_cons, show i + 1 + l.length = i + (l.length + 1) by omega]
/-- The map of the places of fields. -/
abbrev mapObj (l : List S56) : Obj := .map (entsFrom 0 l).toArray l.length
theorem eqI {P : Program} {d : Nat} {e : TypeId} {c : Nat} {xs ys : Array Value} {i : Nat} {is : List Nat} {x y : Value} {r : Bool} {w : World} (hx : (part e xs (i * c)).run P w = .ok x w) (hy : (part e ys (i * c)).run P w = .ok y w)
    (hq : (Op.equalIn d e x y).run P w = .ok r w) : (Op.eqItems d e c xs ys (i :: is)).run P w = if r then (Op.eqItems d e c xs ys is).run P w else .ok false w := by
  simp only [Op.eqItems, Sem.run_bind, hx, hy, hq, Result.andThen_ok]
  cases r <;> simp
theorem key_eql (a b c d a' b' c' d' : Int) (W : World) : (Op.equal 77 (K4 a b c d) (K4 a' b' c' d')).run Tryd.prog W = .ok (((a == a' && b == b') && c == c') && d == d') W := by
  obtain ⟨i, hi, _⟩ := Option.map_eq_some_iff.1 info5
  have hu : Tryd.prog.underlying 77 = some (.array 4 5) := by kernel_rfl
  have hc : Tryd.prog.cellsOf 5 = 1 := by kernel_rfl
  have p : ∀ (x0 x1 x2 x3 : Int), (part 5 #[.int .u8 x0, .int .u8 x1, .int .u8 x2, .int .u8 x3] (0 * 1)).run Tryd.prog W = .ok (.int .u8 x0) W ∧ (part 5 #[.int .u8 x0, .int .u8 x1, .int .u8 x2, .int .u8 x3] (1 * 1)).run Tryd.prog W = .ok (.int .u8 x1) W ∧ (part 5 #[.int .u8 x0, .int .u8 x1, .int .u8 x2, .int .u8 x3] (2 * 1)).run Tryd.prog W = .ok (.int .u8 x2) W ∧ (part 5 #[.int .u8 x0, .int .u8 x1, .int .u8 x2, .int .u8 x3] (3 * 1)).run Tryd.prog W = .ok (.int .u8 x3) W := fun _ _ _ _ => ⟨by kernel_rfl, by kernel_rfl, by kernel_rfl, by kernel_rfl⟩
  obtain ⟨p0, p1, p2, p3⟩ := p a b c d
  obtain ⟨q0, q1, q2, q3⟩ := p a' b' c' d'
  have h8 : Tryd.prog.underlying 5 = some (.int .u8) := by kernel_rfl
  unfold Op.equal
  rw [show Op.maxDepth = 9998 + 1 + 1 from rfl, run_equalIn_array (i := i) W (9998 + 1) _ _ hu hi, hc, show List.range 4 = [0, 1, 2, 3] from rfl]
  have hq := fun (x y : Int) => run_equalIn_int W 9998 5 .u8 .u8 x y h8
  rw [eqI p0 q0 (hq _ _), eqI p1 q1 (hq _ _), eqI p2 q2 (hq _ _), eqI p3 q3 (hq _ _)]
  cases (a == a') <;> cases (b == b') <;> cases (c == c') <;> cases (d == d') <;> simp [Op.eqItems]
theorem ask_run (s : ByteArray) (W : World) : ∀ (l : List S56) (i j : Nat), (Instr.findAsking 77 (KV s) (entsFrom i l) j).run Tryd.prog W = .ok ((seekV s l 0).map fun k => (j + k, .int .i64 ((i + k : Nat) : Int))) W
  | [], _, _ => by simp [entsFrom, Instr.findAsking, seekV]
  | f :: l, i, j => by
    have e : ∀ (l : List S56) (m : Nat), seekV s l (m + 1) = (seekV s l m).map (· + 1) := by
      intro l
      induction l with
      | nil => intro m; rfl
      | cons g l ih =>
        intro m
        rw [seekV, seekV]
        split
        · rfl
        · exact ih (m + 1)
    have hq : (Op.equal 77 (KV s) (KV f.f0)).run Tryd.prog W = .ok (sameK s f.f0) W := key_eql _ _ _ _ _ _ _ _ W
    rw [entsFrom, seekV]
    simp only [Instr.findAsking, Sem.run_bind, hq, Result.andThen_ok]
    by_cases h : sameK s f.f0 = true
    · simp [h]
    · rw [if_neg h, if_neg h, ask_run s W l (i + 1) (j + 1), e l 0]
      cases seekV s l 0 with
      | none => rfl
      | some k => simp; omega
theorem find_run (s : ByteArray) (W : World) (l : List S56) : (Instr.findKey 77 (KV s) (entsFrom 0 l)).run Tryd.prog W = .ok ((seekV s l 0).map fun k => (k, .int .i64 (k : Int))) W := by
  rw [run_findKey_eq W (by kernel_rfl), ask_run]
  simp
/-- What the map has at a key; whether it has it. -/
def seekI (s : ByteArray) (l : List S56) : Int := match seekV s l 0 with | some k => (k : Int) | none => 0
def seekB (s : ByteArray) (l : List S56) : Bool := (seekV s l 0).isSome
theorem lookup_run (s : ByteArray) (l : List S56) (b : Nat) (W : World) (hb : W.heap[b]? = some (mapObj l)) : (Instr.lookup 62 (.map (some b)) (KV s) true).run Tryd.prog W = .ok (.tuple #[.int .i64 (seekI s l), .bool (seekB s l)]) W := by
  have hu : Tryd.prog.underlying 62 = some (.map 77 3) := by kernel_rfl
  have hk : ∀ e : Bool, (Instr.checkKey e 10000 77 (KV s)).run Tryd.prog W = .ok () W := fun e => by kernel_rfl
  have hz : (zeroValue 3).run Tryd.prog W = .ok (.int .i64 0) W := by kernel_rfl
  have hf := find_run s W l
  unfold seekI seekB
  simp only [Instr.lookup, Sem.run_bind, run_underlying hu, Result.andThen_ok, MapKept.run_getObj_map hb, hk, Sem.run_pure, hf]
  cases seekV s l 0 with
  | none => simp [hz]
  | some k => simp
theorem store_run (f : S56) (l : List S56) (b : Nat) (W : World) (hb : W.heap[b]? = some (mapObj l)) (hn : seekV f.f0 l 0 = none) : (Instr.mapUpdate 62 (.map (some b)) (KV f.f0) (.int .i64 (l.length : Int))).run Tryd.prog W = .ok () { W with heap := W.heap.setIfInBounds b (mapObj (l ++ [f])) } := by
  have hu : Tryd.prog.underlying 62 = some (.map 77 3) := by kernel_rfl
  have hk : ∀ e : Bool, (Instr.checkKey e 10000 77 (KV f.f0)).run Tryd.prog W = .ok () W := fun e => by kernel_rfl
  have hf := find_run f.f0 W l
  rw [hn] at hf
  have he : (mapObj (l ++ [f])) = .map ((entsFrom 0 l).toArray.push { key := KV f.f0, val := .int .i64 (l.length : Int), born := l.length }) (l.length + 1) := by
    unfold mapObj
    rw [entsFrom_snoc, List.length_append]
    simp
  simp only [Instr.mapUpdate, Sem.run_bind, run_underlying hu, Result.andThen_ok, MapKept.run_getObj_map hb, hk, hf, Option.map_none]
  rw [MapKept.run_setObj_map _ hb, he]
theorem wpList_run_lookup {P : Program} {ops : Array Oper} {rest : List Oper} {o : Oper} {a : Act} {Q : Exit → Act → World → Prop} {W : World} {v1 : Value} (hgd : o.guard = none) (m x : Operand) (t : TypeId)
    (ho : o.op = .lookup t m x true) (v y : Value) (hs : a.eval m = v) (hx : a.eval x = y) (hrun : (Instr.lookup t v y true).run P W = .ok v1 W) (h : wpList P ops Q rest (a.put o.dst v1) W) :
    wpList P ops Q (o :: rest) a W := by
  refine wpList_plain hgd fun K hK => ?_
  unfold Oper.wp
  simp [execOp, ho, hs, hx, hrun, Result.andThen]
  exact hK _ _ h
theorem wpList_run_update {P : Program} {ops : Array Oper} {rest : List Oper} {o : Oper} {a : Act} {Q : Exit → Act → World → Prop} {W w1 : World} (hgd : o.guard = none) (m x v : Operand) (t : TypeId)
    (ho : o.op = .mapUpdate t m x v) (vm vx vv : Value) (hm : a.eval m = vm) (hx : a.eval x = vx) (hv : a.eval v = vv) (hrun : (Instr.mapUpdate t vm vx vv).run P W = .ok () w1) (h : wpList P ops Q rest (a.put o.dst undef) w1) :
    wpList P ops Q (o :: rest) a W := by
  refine wpList_plain hgd fun K hK => ?_
  unfold Oper.wp
  simp [execOp, ho, hm, hx, hv, hrun, Result.andThen]
  exact hK _ _ h
def PlPost (w : World) (l : List S56) (e : Ending) (w' : World) : Prop :=
  Below w.heap.size w w' ∧ if okFs l = true then ∃ b : Nat, e = .returned (.tuple #[.map (some b), .bool (decide (l.length ≤ 32))]) ∧ w'.heap[b]? = some (mapObj l) ∧ w.heap.size ≤ b else e = .returned (.tuple #[.map none, .bool false])
set_option maxHeartbeats 4000000 in
set_option maxRecDepth 100000 in
theorem places_any (A : Option Addr) (c : Nat) (l : List S56) (w : World) (hC : Kd.C k56 w A l.length l) (hc : l.length ≤ c) (hl : l.length ≤ 1000000000) :
    Calls Tryd.prog 40 #[.slice A l.length c] w (PlPost w l) := by
  have HC := Aside0.mk hC
  obtain ⟨w1, hw1⟩ : ∃ w1, w1 = w.alloc (.map #[] 0) := ⟨_, rfl⟩
  obtain ⟨b, hb⟩ : ∃ b, b = w.heap.size := ⟨_, rfl⟩
  have HB1 : Aside0 (Below w.heap.size w w1) := ⟨by rw [hw1]; exact below_alloc (Below.refl _ _) _⟩
  have HM1 : Aside0 (w1.heap[b]? = some (mapObj (l.take 0))) := ⟨by rw [hw1, hb]; exact World.alloc_heap_new w _⟩
  have HW1 := Aside0.mk hw1
  have HBS := Aside0.mk hb
  clear hC hw1 hb
  have hmm : ∀ W : World, (Instr.makeMap 62 none).run Tryd.prog W = .ok (.map (some W.heap.size)) (W.alloc (.map #[] 0)) := fun _ => by kernel_rfl
  go_enter Tryd.func40, Tryd.ntmps40
  go_wp2_with fail
  rw [← HW1.out, ← HBS.out]
  go_loopw [14] (fun u wr => ∃ k : Nat, u = .int .i64 (k : Int) ∧ k ≤ l.length ∧ Aside0 (∀ j, j < k → goodF l j = true) ∧ Aside0 (Below w.heap.size w wr) ∧ Aside0 (wr.heap[b]? = some (mapObj (l.take k)))) (fun u _ => l.length - (intOf u).toNat)
  case atStart => exact ⟨0, rfl, Nat.zero_le _, ⟨fun j hj => by omega⟩, HB1, HM1⟩
  case round =>
    obtain ⟨k, rfl, hk, HN, HB, HM⟩ := hrel
    by_cases hlt : k < l.length
    · obtain ⟨ad, rfl, hx0, hx1⟩ := at_T56 (Kd.C_below HC.out HB.out) (k : Int) (by omega) (by omega)
      rw [show rd_T56 l (k : Int) = nth l k from rfl] at hx0 hx1
      rw [Int.toNat_natCast] at hx0 hx1
      obtain ⟨s0, e0⟩ : ∃ s, (nth l k).f0 = s := ⟨_, rfl⟩
      obtain ⟨s1, e1⟩ : ∃ s, (nth l k).f1 = s := ⟨_, rfl⟩
      rw [e0] at hx0
      rw [e1] at hx1
      obtain ⟨w2, hw2⟩ : ∃ w2, w2 = wr.alloc (.cells #[.string s0, .string s1] 56) := ⟨_, rfl⟩
      have hB2 : Below w.heap.size w w2 := by rw [hw2]; exact below_alloc HB.out _
      have hM2 : w2.heap[b]? = some (mapObj (l.take k)) := by rw [hw2]; exact blk_alloc' HM.out _
      have hE2 : w2.heap[wr.heap.size]? = some (.cells #[.string s0, .string s1] 56 (0, 0)) := by rw [hw2]; exact World.alloc_heap_new wr _
      have HW2 := Aside0.mk hw2
      have HB2 := Aside0.mk hB2
      have HM2 := Aside0.mk hM2
      have HE2 := Aside0.mk hE2
      have hgk : goodF l k = (keyOk s0 && (seekK s0 (l.take k) 0).isNone && decide (s1.size ≤ 1000)) := by unfold goodF; rw [e0, e1]
      have HGK := Aside0.mk hgk
      have HNT : Aside0 (l.take (k + 1) = l.take k ++ [nth l k]) := ⟨by rw [List.take_succ_eq_append_getElem hlt]; congr 1; unfold nth; rw [List.getD_eq_getElem?_getD, List.getElem?_eq_getElem hlt]; rfl⟩
      have HE0 := Aside0.mk e0
      have HLT : Aside0 ((l.take k).length = k) := ⟨by rw [List.length_take]; omega⟩
      clear hw2 hB2 hM2 hE2 hgk e0 e1
      go_wp2_with fail
      rw [← HW2.out]
      refine (keyOf_any s0 w2).mono ?_
      rintro e w3 ⟨rfl, hb3⟩
      have hM3 := blk_fr HM2.out (Fr.below hb3 (fun _ => False)) (fun h => h)
      have hE3 := blk_fr HE2.out (Fr.below hb3 (fun _ => False)) (fun h => h)
      have hE4 := blk_alloc' hE3 (.cells #[.int .u8 (kb s0 0), .int .u8 (kb s0 1), .int .u8 (kb s0 2), .int .u8 (kb s0 3)] 77)
      have hM4 := blk_alloc' hM3 (.cells #[.int .u8 (kb s0 0), .int .u8 (kb s0 1), .int .u8 (kb s0 2), .int .u8 (kb s0 3)] 77)
      have hB4 : Below w.heap.size w (w3.alloc (.cells #[.int .u8 (kb s0 0), .int .u8 (kb s0 1), .int .u8 (kb s0 2), .int .u8 (kb s0 3)] 77)) := below_alloc (HB2.out.trans (hb3.mono HB2.out.size)) _
      have hL4 := lookup_run s0 (l.take k) b _ hM4
      have c1 : (w3.alloc (.cells #[.int .u8 (kb s0 0), .int .u8 (kb s0 1), .int .u8 (kb s0 2), .int .u8 (kb s0 3)] 77)).cell? ⟨wr.heap.size, 1, none⟩ = some (.string s1) := by rw [cell_of_row _ _ _ _ _ _ hE4]; rfl
      have HM4 := Aside0.mk hM4
      have HB4 := Aside0.mk hB4
      have HL4 := Aside0.mk hL4
      have hsv : keyOk s0 = true → seekB s0 (l.take k) = (seekK s0 (l.take k) 0).isSome := fun h => by
        unfold seekB
        rw [seekV_eq (keyOk_size h) _ _ (take_good (by omega) HN.out)]
      have hst := fun h => store_run (nth l k) (l.take k) b _ hM4 h
      rw [HE0.out, HLT.out] at hst
      have hst2 : keyOk s0 = true → seekK s0 (l.take k) 0 = none → seekV s0 (l.take k) 0 = none := fun h h2 => by rw [seekV_eq (keyOk_size h) _ _ (take_good (by omega) HN.out)]; exact h2
      have HSV := Aside0.mk hsv
      have HST := Aside0.mk hst
      have HST2 := Aside0.mk hst2
      clear hM3 hE3 hE4 hM4 hB4 hL4 hsv hst hst2 hb3
      by_cases hk1 : keyOk s0 = true
      · have HSB := HSV.out hk1
        by_cases hk2 : (seekK s0 (l.take k) 0).isSome = true
        · rw [hk2] at HSB
          have HG : Aside0 (goodF l k = false) := ⟨by rw [HGK.out]; cases e : seekK s0 (l.take k) 0 with
            | none => rw [e] at hk2; cases hk2
            | some j => simp⟩
          rw [hk1]
          clear hk1 hk2
          go_wp2_with (refine wpList_run_lookup rfl _ _ _ rfl _ _ rfl rfl HL4.out ?_)
          go_ret2
          exact ⟨HB4.out, by rw [if_neg (by rw [okFs_false hlt HG.out]; simp)]; rfl⟩
        · have hk3 : seekK s0 (l.take k) 0 = none := by
            cases e : seekK s0 (l.take k) 0 with
            | none => rfl
            | some j => rw [e] at hk2; simp at hk2
          have hfl : (seekK s0 (l.take k) 0).isSome = false := by rw [hk3]; rfl
          rw [hfl] at HSB
          by_cases hz : s1.size ≤ 1000
          · have HG : Aside0 (goodF l k = true) := ⟨by rw [HGK.out, hk1, hk3, decide_eq_true hz]; rfl⟩
            have hd : decide ((1000 : Int) < (s1.size : Int)) = false := by simp; omega
            have HSTR := Aside0.mk (HST.out (HST2.out hk1 hk3))
            rw [hk1]
            clear hk1 hk2 hk3 hfl
            go_wp2_with (first | (refine wpList_run_lookup rfl _ _ _ rfl _ _ rfl rfl HL4.out ?_) | (refine wpList_run_update rfl _ _ _ _ rfl _ _ _ rfl rfl rfl HSTR.out ?_))
            obtain ⟨w5, hw5⟩ : ∃ w5, w5 = World.putObj (w3.alloc (.cells #[.int .u8 (kb s0 0), .int .u8 (kb s0 1), .int .u8 (kb s0 2), .int .u8 (kb s0 3)] 77)) b (mapObj (l.take (k + 1))) := ⟨_, rfl⟩
            have hM5 : w5.heap[b]? = some (mapObj (l.take (k + 1))) := by rw [hw5]; exact World.putObj_heap_same (lt_of_block HM4.out)
            have hB5 : Below w.heap.size w w5 := by rw [hw5]; exact HB4.out.grown (grownBy_putObj' _ _ _) HB4.out.size (fun k e => by cases e; rw [HBS.out]; exact Nat.le_refl _)
            have HN5 : Aside0 (∀ j, j < k + 1 → goodF l j = true) := ⟨fun j hj => by
              by_cases h : j = k
              · subst h; exact HG.out
              · exact HN.out j (by omega)⟩
            go_roundw
            case rel => exact ⟨k + 1, by go_num, by omega, HN5, ⟨by rw [hw5] at hB5; exact hB5⟩, ⟨by rw [hw5] at hM5; exact hM5⟩⟩
            case measure => simp [intOf]; omega
          · have HG : Aside0 (goodF l k = false) := ⟨by rw [HGK.out, decide_eq_false hz]; simp⟩
            have hd : decide ((1000 : Int) < (s1.size : Int)) = true := by simp; omega
            rw [hk1]
            clear hk1 hk2 hk3 hfl
            go_wp2_with (refine wpList_run_lookup rfl _ _ _ rfl _ _ rfl rfl HL4.out ?_)
            go_ret2
            exact ⟨HB4.out, by rw [if_neg (by rw [okFs_false hlt HG.out]; simp)]; rfl⟩
      · have hk0 : keyOk s0 = false := by simpa using hk1
        have HG : Aside0 (goodF l k = false) := ⟨by rw [HGK.out, hk0]; simp⟩
        rw [hk0]
        clear hk1 hk0
        go_wp2_with (refine wpList_run_lookup rfl _ _ _ rfl _ _ rfl rfl HL4.out ?_)
        go_ret2
        exact ⟨HB4.out, by rw [if_neg (by rw [okFs_false hlt HG.out]; simp)]; rfl⟩
    · obtain rfl : k = l.length := by omega
      have HG : Aside0 (okFs l = true) := ⟨(okFs_iff l).2 HN.out⟩
      have HB0 : Aside0 (w.heap.size ≤ b) := ⟨by rw [HBS.out]; exact Nat.le_refl _⟩
      have hle : ((l.length : Int) ≤ 32) = (l.length ≤ 32) := by simp; omega
      go_wp2_with fail
      go_ret2
      refine ⟨HB.out, ?_⟩
      rw [if_pos HG.out]
      have := HM.out
      rw [List.take_length] at this
      exact ⟨b, by first | rfl | (simp; done) | (simp; omega), this, HB0.out⟩
end Go.Proofs.YthlmnnjbpikijaaDoor.P
end
section
namespace Go.Proofs.YthlmnnjbpikijaaDoor.P
open Go.RowKit Go.Shelf Go.Proofs.YthlmnnjbpikijaaDoor.Bits Go.Proofs.YthlmnnjbpikijaaDoorW.PrintWords Go.Proofs.YthlmnnjbpikijaaDoorW.PrintLast Go.Proofs.YthlmnnjbpikijaaDoorW.PrintMore
set_option linter.unusedVariables false
set_option linter.unusedSimpArgs false
attribute [local go_sem ↓] Go.wp_at_zero Go.wp_at_succ
theorem isCount_any (n : Int) (w : World) : Calls Tryd.prog 41 #[.int .i64 n] w fun e w' => e = .returned (.bool (okN n)) ∧ Drawn0 w w' := by
  refine tag_isCount.calls n _ w ?_
  unfold tag_isCount.f okN
  by_cases h : n ≥ 0
  · rw [if_pos h]
    congr 1
    simp; omega
  · rw [if_neg h]
    congr 1
    simp; omega
abbrev tagV (s c : Int) (A : Option Addr) (n cp : Nat) : Value := .agg #[.int .i64 s, .int .i64 c, .slice A n cp]
abbrev tagObj (s c : Int) (A : Option Addr) (n cp : Nat) : Obj := .cells #[.int .i64 s, .int .i64 c, .slice A n cp] 24 (0, 0)
/-- Fields in memory. -/
structure FD (w : World) (A : Option Addr) (c : Nat) (l : List S56) : Prop where
  C : Kd.C k56 w A l.length l
  cap : l.length ≤ c
  len : l.length ≤ 1000000000
theorem FD.below {w w' : World} {A : Option Addr} {c : Nat} {l : List S56} (h : FD w A c l) (hb : Below w.heap.size w w') : FD w' A c l := ⟨Kd.C_below h.C hb, h.cap, h.len⟩
set_option maxHeartbeats 4000000 in
set_option maxRecDepth 100000 in
theorem Check_any (t : TG) (A : Option Addr) (c : Nat) (w : World) (h : FD w A c t.fs) :
    Calls Tryd.prog 15 #[tagV t.skip t.cut A t.fs.length c] w fun e w' => e = .returned (.int .i64 (if okT t = true then 0 else 1)) ∧ Below w.heap.size w w' := by
  obtain ⟨s, u, l⟩ := t
  dsimp only at *
  obtain ⟨w1, hw1⟩ : ∃ w1, w1 = w.alloc (tagObj s u A l.length c) := ⟨_, rfl⟩
  have hb1 : Below w.heap.size w w1 := by rw [hw1]; exact below_alloc (Below.refl _ _) _
  have hx1 : w1.heap[w.heap.size]? = some (tagObj s u A l.length c) := by rw [hw1]; exact World.alloc_heap_new w _
  have HP := Aside0.mk (places_any A c l w1 (Kd.C_below h.C hb1) h.cap h.len)
  have HB1 := Aside0.mk hb1
  have HX1 := Aside0.mk hx1
  have HW1 := Aside0.mk hw1
  have hok : okT ⟨s, u, l⟩ = (okN s && okN u && decide (l.length ≤ 32) && okFs l) := rfl
  obtain ⟨r, hr⟩ : ∃ r : Int, (if okT ⟨s, u, l⟩ = true then 0 else 1) = r := ⟨_, rfl⟩
  rw [hr]
  have HOK : Aside0 (r = if (okN s && okN u && decide (l.length ≤ 32) && okFs l) = true then 0 else 1) := ⟨by rw [← hr, hok]⟩
  clear hr
  clear hb1 hx1 hw1 h hok
  go_enter Tryd.func15, Tryd.ntmps15
  go_wp2_with fail
  rw [← HW1.out]
  refine HP.out.mono ?_
  rintro e w2 ⟨hb2, he⟩
  have hx2 := blk_fr HX1.out (Fr.below hb2 (fun _ => False)) (fun h => h)
  have z0 : w2.cell? ⟨w.heap.size, 0, none⟩ = some (.int .i64 s) := by rw [cell_of_row _ _ _ _ _ _ hx2]; rfl
  have hb02 := HB1.out.trans (hb2.mono HB1.out.size)
  have HB2 := Aside0.mk hb02
  have HX2 := Aside0.mk hx2
  clear hb2 hx2 hb02 HP
  by_cases hk : okFs l = true
  · rw [if_pos hk] at he
    obtain ⟨b, rfl, -, -⟩ := he
    by_cases h32 : l.length ≤ 32
    · have hd : decide (l.length ≤ 32) = true := decide_eq_true h32
      rw [hd]
      clear h32
      cases hs : okN s with
      | false =>
        have HI := Aside0.mk (isCount_any s w2)
        rw [hs] at HI
        have HO : Aside0 (r = 1) := ⟨by rw [HOK.out, hs]; rfl⟩
        clear hs hd
        go_wp2_with fail
        refine HI.out.mono ?_
        rintro e w3 ⟨rfl, hdr⟩
        have HB3 := Aside0.mk (HB2.out.trans (hdr.below.mono HB2.out.size))
        clear hdr
        go_wp2_with fail
        go_ret
        exact ⟨by rw [HO.out]; rfl, HB3.out⟩
      | true =>
        have HI := Aside0.mk (isCount_any s w2)
        rw [hs] at HI
        cases hu : okN u with
        | false =>
          have HO : Aside0 (r = 1) := ⟨by rw [HOK.out, hu]; simp⟩
          have HJ := Aside0.mk (fun W => isCount_any u W)
          rw [hu] at HJ
          clear hs hd hu
          go_wp2_with fail
          refine HI.out.mono ?_
          rintro e w3 ⟨rfl, hdr⟩
          have HB3 := Aside0.mk (HB2.out.trans (hdr.below.mono HB2.out.size))
          have hx3 := blk_fr HX2.out (Fr.below hdr.below (fun _ => False)) (fun h => h)
          have z1 : w3.cell? ⟨w.heap.size, 1, none⟩ = some (.int .i64 u) := by rw [cell_of_row _ _ _ _ _ _ hx3]; rfl
          clear hdr hx3
          go_wp2_with fail
          refine (HJ.out w3).mono ?_
          rintro e w4 ⟨rfl, hdr⟩
          have HB4 := Aside0.mk (HB3.out.trans (hdr.below.mono HB3.out.size))
          clear hdr
          go_wp2_with fail
          go_ret
          exact ⟨by rw [HO.out]; rfl, HB4.out⟩
        | true =>
          have HO : Aside0 (r = 0) := ⟨by rw [HOK.out, hu, hs, hd, hk]; rfl⟩
          have HJ := Aside0.mk (fun W => isCount_any u W)
          rw [hu] at HJ
          clear hs hd hu
          go_wp2_with fail
          refine HI.out.mono ?_
          rintro e w3 ⟨rfl, hdr⟩
          have HB3 := Aside0.mk (HB2.out.trans (hdr.below.mono HB2.out.size))
          have hx3 := blk_fr HX2.out (Fr.below hdr.below (fun _ => False)) (fun h => h)
          have z1 : w3.cell? ⟨w.heap.size, 1, none⟩ = some (.int .i64 u) := by rw [cell_of_row _ _ _ _ _ _ hx3]; rfl
          clear hdr hx3
          go_wp2_with fail
          refine (HJ.out w3).mono ?_
          rintro e w4 ⟨rfl, hdr⟩
          have HB4 := Aside0.mk (HB3.out.trans (hdr.below.mono HB3.out.size))
          clear hdr
          go_wp2_with fail
          go_ret
          exact ⟨by rw [HO.out]; rfl, HB4.out⟩
    · have hd : decide (l.length ≤ 32) = false := decide_eq_false h32
      rw [hd]
      have HO : Aside0 (r = 1) := ⟨by rw [HOK.out, hd]; simp⟩
      clear h32 hd
      go_wp2_with fail
      go_ret
      exact ⟨by rw [HO.out]; rfl, HB2.out⟩
  · rw [if_neg hk] at he
    obtain rfl := he
    have HO : Aside0 (r = 1) := ⟨by rw [HOK.out, show okFs l = false by simpa using hk]; simp⟩
    clear hk
    go_wp2_with fail
    go_ret
    exact ⟨by rw [HO.out]; rfl, HB2.out⟩
theorem okT_fs {t : TG} (h : okT t = true) : okFs t.fs = true ∧ t.fs.length ≤ 32 ∧ okN t.skip = true ∧ okN t.cut = true := by
  unfold okT at h
  simp only [Bool.and_eq_true, decide_eq_true_eq] at h
  exact ⟨h.2, h.1.2, h.1.1.1, h.1.1.2⟩
/-- The text of a field, and the error. -/
def fGet (t : TG) (k : ByteArray) : ByteArray × Int := if okT t = true then (match seekK k t.fs 0 with | some i => ((nth t.fs i).f1, 0) | none => (⟨#[]⟩, 5)) else (⟨#[]⟩, 1)
theorem seek_bad {l : List S56} {k : ByteArray} (h : okFs l = true) (hk : keyOk k = false) : seekK k l 0 = none := by
  cases e : seekK k l 0 with
  | none => rfl
  | some j =>
    obtain ⟨_, h2, h3, _⟩ := seekK_some e
    have := (okFs_iff l).1 h j (by omega)
    rw [Nat.sub_zero] at h3
    unfold goodF at this
    rw [h3, hk] at this
    simp at this
set_option maxHeartbeats 4000000 in
set_option maxRecDepth 100000 in
theorem TGet_any (t : TG) (A : Option Addr) (c : Nat) (k : ByteArray) (w : World) (h : FD w A c t.fs) :
    Calls Tryd.prog 25 #[tagV t.skip t.cut A t.fs.length c, .string k] w fun e w' => e = .returned (.tuple #[.string (fGet t k).1, .int .i64 (fGet t k).2]) ∧ Below w.heap.size w w' := by
  obtain ⟨s, u, l⟩ := t
  dsimp only at *
  obtain ⟨w1, hw1⟩ : ∃ w1, w1 = w.alloc (tagObj s u A l.length c) := ⟨_, rfl⟩
  have hb1 : Below w.heap.size w w1 := by rw [hw1]; exact below_alloc (Below.refl _ _) _
  have hx1 : w1.heap[w.heap.size]? = some (tagObj s u A l.length c) := by rw [hw1]; exact World.alloc_heap_new w _
  have hck := Check_any ⟨s, u, l⟩ A c w1 (h.below hb1)
  dsimp only at hck
  have HF := Aside0.mk h
  have HB1 := Aside0.mk hb1
  have HX1 := Aside0.mk hx1
  have HW1 := Aside0.mk hw1
  obtain ⟨r, hr⟩ : ∃ r, fGet ⟨s, u, l⟩ k = r := ⟨_, rfl⟩
  rw [hr]
  obtain ⟨r1, r2⟩ := r
  dsimp only
  clear hb1 hx1 hw1 h
  by_cases ho : okT ⟨s, u, l⟩ = true
  · rw [if_pos ho] at hck
    obtain ⟨hfs, h32, -, -⟩ := okT_fs ho
    dsimp only at hfs h32
    have HCK := Aside0.mk hck
    have HFS := Aside0.mk hfs
    have HR : Aside0 ((match seekK k l 0 with | some i => ((nth l i).f1, (0 : Int)) | none => (⟨#[]⟩, 5)) = (r1, r2)) := ⟨by rw [← hr, fGet, if_pos ho]⟩
    clear hr ho hck hfs
    go_enter Tryd.func25, Tryd.ntmps25
    go_wp2_with fail
    rw [← HW1.out]
    refine HCK.out.mono ?_
    rintro e w2 ⟨rfl, hb2⟩
    have hb02 := HB1.out.trans (hb2.mono HB1.out.size)
    have hx2 := blk_fr HX1.out (Fr.below hb2 (fun _ => False)) (fun h => h)
    have z2 : w2.cell? ⟨w.heap.size, 2, none⟩ = some (.slice A l.length c) := by rw [cell_of_row _ _ _ _ _ _ hx2]; rfl
    have hpl := places_any A c l w2 (Kd.C_below HF.out.C hb02) HF.out.cap HF.out.len
    have HPL := Aside0.mk hpl
    have HB2 := Aside0.mk hb02
    have HX2 := Aside0.mk hx2
    clear hb2 hb02 hx2 hpl HCK
    go_wp2_with fail
    refine HPL.out.mono ?_
    rintro e w3 ⟨hb3, he⟩
    rw [if_pos HFS.out] at he
    obtain ⟨b, rfl, hm3, hbs⟩ := he
    have HB3 := Aside0.mk (HB2.out.trans (hb3.mono HB2.out.size))
    have HX3 := Aside0.mk (blk_fr HX2.out (Fr.below hb3 (fun _ => False)) (fun h => h))
    have HM3 := Aside0.mk hm3
    clear hb3 hm3 HPL z2
    go_wp2_with fail
    refine (keyOf_any k w3).mono ?_
    rintro e w4 ⟨rfl, hb4⟩
    have hb04 := HB3.out.trans (hb4.mono HB3.out.size)
    have hM4 := blk_fr HM3.out (Fr.below hb4 (fun _ => False)) (fun h => h)
    have hX4 := blk_fr HX3.out (Fr.below hb4 (fun _ => False)) (fun h => h)
    have hM5 := blk_alloc' hM4 (.cells #[.int .u8 (kb k 0), .int .u8 (kb k 1), .int .u8 (kb k 2), .int .u8 (kb k 3)] 77)
    have hX5 := blk_alloc' hX4 (.cells #[.int .u8 (kb k 0), .int .u8 (kb k 1), .int .u8 (kb k 2), .int .u8 (kb k 3)] 77)
    have hB5 : Below w.heap.size w (w4.alloc (.cells #[.int .u8 (kb k 0), .int .u8 (kb k 1), .int .u8 (kb k 2), .int .u8 (kb k 3)] 77)) := below_alloc hb04 _
    have hC5 := Kd.C_below HF.out.C hB5
    have HL5 := Aside0.mk (lookup_run k l b _ hM5)
    have z5 : (w4.alloc (.cells #[.int .u8 (kb k 0), .int .u8 (kb k 1), .int .u8 (kb k 2), .int .u8 (kb k 3)] 77)).cell? ⟨w.heap.size, 2, none⟩ = some (.slice A l.length c) := by rw [cell_of_row _ _ _ _ _ _ hX5]; rfl
    have HB5 := Aside0.mk hB5
    have HC5 := Aside0.mk hC5
    clear hb4 hb04 hM4 hX4 hM5 hX5 hB5 hC5
    by_cases hk : keyOk k = true
    · have hsv : seekV k l 0 = seekK k l 0 := seekV_eq (keyOk_size hk) _ _ (good_keys HFS.out)
      rw [hk]
      cases hs : seekK k l 0 with
      | none =>
        have hsb : seekB k l = false := by unfold seekB; rw [hsv, hs]; rfl
        have HR2 := HR.out
        rw [hs] at HR2
        cases HR2
        clear hs hsv hk HR
        go_wp2_with (refine wpList_run_lookup rfl _ _ _ rfl _ _ rfl rfl HL5.out ?_)
        go_ret2
        exact ⟨rfl, HB5.out⟩
      | some j =>
        have hsb : seekB k l = true := by unfold seekB; rw [hsv, hs]; rfl
        have hsi : seekI k l = (j : Int) := by unfold seekI; rw [hsv, hs]
        obtain ⟨_, hj, _, _⟩ := seekK_some hs
        have HR2 := HR.out
        rw [hs] at HR2
        obtain ⟨e1, rfl⟩ := Prod.mk.inj HR2
        obtain ⟨ad, rfl, hx0, hx1⟩ := at_T56 HC5.out (j : Int) (by omega) (by omega)
        rw [show rd_T56 l (j : Int) = nth l j from rfl] at hx0 hx1
        rw [Int.toNat_natCast] at hx0 hx1
        have hjl : j < l.length := by omega
        rw [e1] at hx1
        clear hs hsv hk HR hx0 e1
        go_wp2_with (refine wpList_run_lookup rfl _ _ _ rfl _ _ rfl rfl HL5.out ?_)
        go_ret2
        exact ⟨rfl, HB5.out⟩
    · have hk0 : keyOk k = false := by simpa using hk
      have HR2 := HR.out
      rw [seek_bad HFS.out hk0] at HR2
      cases HR2
      rw [hk0]
      clear hk hk0 HR
      go_wp2_with (refine wpList_run_lookup rfl _ _ _ rfl _ _ rfl rfl HL5.out ?_)
      go_ret2
      exact ⟨rfl, HB5.out⟩
  · rw [if_neg ho] at hck
    have HCK := Aside0.mk hck
    have hr2 : (⟨#[]⟩, 1) = (r1, r2) := by rw [← hr, fGet, if_neg ho]
    cases hr2
    clear hr ho hck
    go_enter Tryd.func25, Tryd.ntmps25
    go_wp2_with fail
    rw [← HW1.out]
    refine HCK.out.mono ?_
    rintro e w2 ⟨rfl, hb2⟩
    have HB2 := Aside0.mk (HB1.out.trans (hb2.mono HB1.out.size))
    clear hb2 HCK
    go_wp2_with fail
    go_ret2
    exact ⟨rfl, HB2.out⟩
end Go.Proofs.YthlmnnjbpikijaaDoor.P
end
section
namespace Go.Proofs.YthlmnnjbpikijaaDoor.P
open Go.RowKit Go.Shelf Go.Proofs.YthlmnnjbpikijaaDoor.Bits Go.Proofs.YthlmnnjbpikijaaDoorW.PrintWords Go.Proofs.YthlmnnjbpikijaaDoorW.PrintLast Go.Proofs.YthlmnnjbpikijaaDoorW.PrintMore
set_option linter.unusedVariables false
set_option linter.unusedSimpArgs false
attribute [local go_sem ↓] Go.wp_at_zero Go.wp_at_succ
def ratesL : List Int := [8000, 11025, 12000, 16000, 22050, 24000, 32000, 44100, 48000]
abbrev rateCells : Array Value := #[.int .i64 8000, .int .i64 11025, .int .i64 12000, .int .i64 16000, .int .i64 22050, .int .i64 24000, .int .i64 32000, .int .i64 44100, .int .i64 48000]
/-- The rates lie at block 0. -/
def HG (w : World) : Prop := ∃ t fr, w.heap[0]? = some (.cells rateCells t fr)
theorem HG.below {w w' : World} (h : HG w) (hb : Below w.heap.size w w') : HG w' := by
  obtain ⟨t, fr, h⟩ := h
  exact ⟨t, fr, (hb.block 0 (lt_of_block h)).trans h⟩
theorem HG.C {w : World} (h : HG w) : Kd.C (Kd.int .i64) w (some ⟨0, 0, none⟩) ratesL.length ratesL := by
  obtain ⟨t, fr, h⟩ := h
  refine Kd.C_of_reads (enc := Value.int .i64) (d := (0 : Int)) (h1 := fun _ => rfl) ⟨rfl, by decide, fun _ => ⟨_, rfl, fun j hj => ?_⟩⟩
  have hj9 : j < 9 := hj
  rw [show (⟨0, 0, none⟩ : Addr).add j = ⟨0, j, none⟩ by simp [Addr.add_lit], cell_of_row _ _ _ _ _ _ h]
  have h9 : j = 0 ∨ j = 1 ∨ j = 2 ∨ j = 3 ∨ j = 4 ∨ j = 5 ∨ j = 6 ∨ j = 7 ∨ j = 8 := by omega
  rcases h9 with rfl | rfl | rfl | rfl | rfl | rfl | rfl | rfl | rfl <;> rfl
set_option maxHeartbeats 2000000 in
set_option maxRecDepth 100000 in
theorem Index_any (A : Option Addr) (c : Nat) (x : List Int) (v : Int) (w : World) (hC : Kd.C (Kd.int .i64) w A x.length x) (hx : x.length ≤ 1000000000) :
    Calls Tryd.prog 80 #[.slice A x.length c, .int .i64 v] w fun e w' => ∃ r, e = .returned (.int .i64 r) ∧ (0 ≤ r ↔ v ∈ x) ∧ w' = w := by
  have HC := Aside0.mk hC
  clear hC
  go_enter Tryd.func80, Tryd.ntmps80
  go_wp2_with fail
  go_loop [8] (fun i => ∃ k : Nat, i = .int .i64 (k : Int) ∧ k ≤ x.length ∧ Aside0 (v ∈ x ↔ v ∈ x.drop k)) (fun i => x.length - (intOf i).toNat)
  case atStart => exact ⟨0, rfl, Nat.zero_le _, ⟨Iff.rfl⟩⟩
  case round =>
    obtain ⟨k, rfl, hk, HN⟩ := hrel
    by_cases hlt : k < x.length
    · obtain ⟨ad, rfl, hc0⟩ := Kd.at_int HC.out (k : Int) (by omega) (by omega)
      have hc : w.cell? (ad.add k) = some (.int .i64 (rd x (k : Int))) := by rwa [Int.toNat_natCast] at hc0
      have hr : rd x (k : Int) = x.getD k 0 := by unfold rd; rw [Int.toNat_natCast]
      have e : x.drop k = x.getD k 0 :: x.drop (k + 1) := by
        rw [List.drop_eq_getElem_cons hlt, List.getD_eq_getElem?_getD, List.getElem?_eq_getElem hlt]; rfl
      rw [hr] at hc
      obtain ⟨y, hy⟩ : ∃ y, x.getD k 0 = y := ⟨_, rfl⟩
      rw [hy] at hc e
      by_cases hv : v = y
      · have HM : Aside0 (v ∈ x) := ⟨by rw [HN.out, e, hv]; exact List.mem_cons_self⟩
        have q : (v == y) = true := beq_iff_eq.2 hv
        clear hc0 hr e hy hv
        go_wp2_with fail
        go_ret
        exact ⟨_, rfl, ⟨fun _ => HM.out, fun _ => by omega⟩, rfl⟩
      · have HN2 : Aside0 (v ∈ x ↔ v ∈ x.drop (k + 1)) := ⟨by rw [HN.out, e, List.mem_cons]; exact ⟨fun q => q.resolve_left hv, .inr⟩⟩
        have q : (v == y) = false := beq_eq_false_iff_ne.2 hv
        clear hc0 hr e hy hv
        go_wp2_with fail
        go_round
        case rel => exact ⟨k + 1, by go_num, by omega, HN2⟩
        case measure => simp [intOf]; omega
    · obtain rfl : k = x.length := by omega
      have HM : Aside0 (¬ v ∈ x) := ⟨by rw [HN.out, List.drop_length]; simp⟩
      go_wp2_with fail
      go_ret
      exact ⟨_, rfl, ⟨fun q => absurd q (by omega), fun q => absurd q HM.out⟩, rfl⟩
set_option maxHeartbeats 2000000 in
set_option maxRecDepth 100000 in
theorem Contains_any (v : Int) (w : World) (hg : HG w) : Calls Tryd.prog 70 #[.slice (some ⟨0, 0, none⟩) 9 9, .int .i64 v] w fun e w' => e = .returned (.bool (decide (v ∈ ratesL))) ∧ w' = w := by
  have HI := Aside0.mk (Index_any (some ⟨0, 0, none⟩) 9 ratesL v w hg.C (by decide))
  obtain ⟨cb, hcb⟩ : ∃ cb, decide (v ∈ ratesL) = cb := ⟨_, rfl⟩
  rw [hcb]
  have HCB := Aside0.mk hcb
  clear hg hcb
  go_enter Tryd.func70, Tryd.ntmps70
  go_wp2_with fail
  refine HI.out.mono ?_
  rintro e w' ⟨r, rfl, hr, rfl⟩
  have HD : Aside0 (cb = decide (0 ≤ r)) := ⟨by rw [← HCB.out]; exact decide_eq_decide.2 hr.symm⟩
  clear hr
  go_wp2_with fail
  go_ret
  exact ⟨by rw [HD.out]; rfl, rfl⟩
/-- Channels in memory. -/
abbrev KdL : Kd (List Int) := Kd.slice 3 (Kd.int .i64)
structure CD (w : World) (A : Option Addr) (c : Nat) (ls : List (List Int)) : Prop where
  C : Kd.C KdL w A ls.length ls
  cap : ls.length ≤ c
  len : ls.length ≤ 1000000000 ∧ ∀ x ∈ ls, x.length ≤ 1000000000
theorem CD.below {w w' : World} {A : Option Addr} {c : Nat} {ls : List (List Int)} (h : CD w A c ls) (hb : Below w.heap.size w w') : CD w' A c ls := ⟨Kd.C_below h.C hb, h.cap, h.len⟩
abbrev sndV (r : Int) (A : Option Addr) (n c : Nat) : Value := .agg #[.int .i64 r, .slice A n c]
abbrev sndObj (r : Int) (A : Option Addr) (n c : Nat) : Obj := .cells #[.int .i64 r, .slice A n c] 46 (0, 0)
abbrev lth (ls : List (List Int)) (j : Nat) : List Int := ls.getD j []
def okSmp (v : Int) : Bool := decide (-32768 ≤ v ∧ v ≤ 32767)
def okCh (ls : List (List Int)) (j : Nat) : Bool := decide ((lth ls j).length = (lth ls 0).length ∧ (lth ls j).length ≤ 8192) && (lth ls j).all okSmp
/-- A sound is valid. -/
def okSnd (r : Int) (ls : List (List Int)) : Bool := decide (r ∈ ratesL) && decide (1 ≤ ls.length ∧ ls.length ≤ 2) && (List.range ls.length).all (okCh ls)
theorem okSnd_iff (r : Int) (ls : List (List Int)) : okSnd r ls = true ↔ r ∈ ratesL ∧ (1 ≤ ls.length ∧ ls.length ≤ 2) ∧ ∀ j, j < ls.length → okCh ls j = true := by
  unfold okSnd
  simp only [Bool.and_eq_true, decide_eq_true_eq, List.all_eq_true, List.mem_range]
  exact ⟨fun h => ⟨h.1.1, h.1.2, h.2⟩, fun h => ⟨⟨h.1, h.2.1⟩, h.2.2⟩⟩
theorem okSnd_no {r : Int} {ls : List (List Int)} {j : Nat} (hj : j < ls.length) (h : okCh ls j = false) : okSnd r ls = false := by
  cases e : okSnd r ls with
  | false => rfl
  | true => rw [((okSnd_iff r ls).1 e).2.2 j hj] at h; cases h
/-- A channel, in memory. -/
theorem CD.at {w : World} {A : Option Addr} {c : Nat} {ls : List (List Int)} (h : CD w A c ls) (j : Nat) (hj : j < ls.length) : ∃ ad A0 c0, A = some ad ∧ w.cell? (ad.add j) = some (.slice A0 (lth ls j).length c0) ∧ (lth ls j).length ≤ c0 ∧ Kd.C (Kd.int .i64) w A0 (lth ls j).length (lth ls j) ∧ (lth ls j).length ≤ 1000000000 := by
  obtain ⟨ad, A0, c0, e, h1, h2, h3⟩ := at_L5 h.C (j : Int) (by omega) (by omega)
  rw [Int.toNat_natCast] at h1
  rw [show rd_L5 ls (j : Int) = lth ls j from rfl] at h1 h2 h3
  refine ⟨ad, A0, c0, e, h1, h2, h3, h.len.2 _ ?_⟩
  unfold lth
  rw [List.getD_eq_getElem?_getD, List.getElem?_eq_getElem hj]
  exact List.getElem_mem _
theorem all_drop {x : List Int} {i : Nat} (h : i < x.length) : (x.drop i).all okSmp = (okSmp (x.getD i 0) && (x.drop (i + 1)).all okSmp) := by
  have e : x.drop i = x.getD i 0 :: x.drop (i + 1) := by
    rw [List.drop_eq_getElem_cons h, List.getD_eq_getElem?_getD, List.getElem?_eq_getElem h]; rfl
  rw [e, List.all_cons]
theorem at_i64 {w : World} {A : Option Addr} {n : Nat} {x : List Int} (h : Kd.C (Kd.int .i64) w A n x) (i : Nat) (hi : i < n) : ∃ ad, A = some ad ∧ w.cell? (ad.add i) = some (.int .i64 (x.getD i 0)) := by
  obtain ⟨ad, e, hc⟩ := Kd.at_int h (i : Int) (by omega) (by omega)
  rw [Int.toNat_natCast] at hc
  exact ⟨ad, e, by rw [hc]; unfold rd; rw [Int.toNat_natCast]⟩
set_option maxHeartbeats 8000000 in
set_option maxRecDepth 100000 in
theorem isSound_any (r : Int) (A : Option Addr) (c : Nat) (ls : List (List Int)) (w : World) (h : CD w A c ls) (hg : HG w) :
    Calls Tryd.prog 54 #[sndV r A ls.length c] w fun e w' => e = .returned (.bool (okSnd r ls)) ∧ Below w.heap.size w w' := by
  obtain ⟨w1, hw1⟩ : ∃ w1, w1 = w.alloc (sndObj r A ls.length c) := ⟨_, rfl⟩
  have hb1 : Below w.heap.size w w1 := by rw [hw1]; exact below_alloc (Below.refl _ _) _
  have hx1 : w1.heap[w.heap.size]? = some (sndObj r A ls.length c) := by rw [hw1]; exact World.alloc_heap_new w _
  have hcon := fun W hW => Contains_any r W (hg.below hW)
  obtain ⟨ok, hok⟩ : ∃ ok, okSnd r ls = ok := ⟨_, rfl⟩
  rw [hok]
  have HB1 := Aside0.mk hb1
  have HX1 := Aside0.mk hx1
  have HW1 := Aside0.mk hw1
  have HCD := Aside0.mk h
  have HOK := Aside0.mk hok
  obtain ⟨rb, hrb⟩ : ∃ rb, decide (r ∈ ratesL) = rb := ⟨_, rfl⟩
  rw [hrb] at hcon
  have HRB := Aside0.mk hrb
  have z0 : w1.cell? ⟨w.heap.size, 0, none⟩ = some (.int .i64 r) := by rw [cell_of_row _ _ _ _ _ _ hx1]; rfl
  have z1 : w1.cell? ⟨w.heap.size, 1, none⟩ = some (.slice A ls.length c) := by rw [cell_of_row _ _ _ _ _ _ hx1]; rfl
  have HCON := Aside0.mk hcon
  clear hb1 hx1 hw1 h hg hok hcon hrb
  have hsl : ∀ W : World, (Instr.sliceAt 99 (.pointer (some ⟨0, 0, none⟩)) none none none).run Tryd.prog W = .ok (.slice (some ⟨0, 0, none⟩) 9 9) W := fun _ => by kernel_rfl
  cases rb with
  | false =>
    have HNO : Aside0 (ok = false) := ⟨by rw [← HOK.out]; unfold okSnd; rw [HRB.out]; simp⟩
    go_enter Tryd.func54, Tryd.ntmps54
    go_wp2_with fail
    rw [← HW1.out]
    repeat (go_quiet (first | (go_at_call 70; refine (HCON.out _ (by first | exact below_drewN HB1.out _ | exact below_drew HB1.out | exact HB1.out)).mono ?_; rintro e w' ⟨rfl, hw⟩; exact ⟨rfl, _, hw⟩)); try go_wp2)
    go_wp2_with fail
    go_ret
    exact ⟨by rw [HNO.out]; rfl, below_drewN HB1.out _⟩
  | true =>
    by_cases hn : 1 ≤ ls.length
    · have d1 : decide ((ls.length : Int) < 1) = false := by simp; omega
      by_cases hn2 : ls.length ≤ 2
      · have d2 : decide ((2 : Int) < (ls.length : Int)) = false := by simp; omega
        go_enter Tryd.func54, Tryd.ntmps54
        go_wp2_with fail
        rw [← HW1.out]
        repeat (go_quiet (first | (go_at_call 70; refine (HCON.out _ (by first | exact below_drewN HB1.out _ | exact below_drew HB1.out | exact HB1.out)).mono ?_; rintro e w' ⟨rfl, hw⟩; exact ⟨rfl, _, hw⟩)); try go_wp2)
        generalize hw2 : World.drewN w1 _ = w2
        have HB2 : Aside0 (Below w.heap.size w w2) := ⟨by rw [← hw2]; exact below_drewN HB1.out _⟩
        have hx2 : w2.heap[w.heap.size]? = some (sndObj r A ls.length c) := by rw [← hw2]; exact HX1.out
        have x1 : w2.cell? ⟨w.heap.size, 1, none⟩ = some (.slice A ls.length c) := by rw [cell_of_row _ _ _ _ _ _ hx2]; rfl
        have HCD2 := Aside0.mk (HCD.out.below HB2.out)
        obtain ⟨ad, A00, c00, rfl, h00, hc00, -, hl00⟩ := HCD2.out.at 0 (by omega)
        have h00' : w2.cell? ad = some (.slice A00 (lth ls 0).length c00) := by simpa [Addr.add] using h00
        obtain ⟨n0, hn0⟩ : ∃ n, (lth ls 0).length = n := ⟨_, rfl⟩
        rw [hn0] at h00 h00' hl00 hc00
        have HN0 := Aside0.mk hn0
        clear hw2 hx2 z0 z1 hn0
        go_loop [27] (fun u => ∃ k : Nat, u = .int .i64 (k : Int) ∧ k ≤ ls.length ∧ Aside0 (∀ j, j < k → okCh ls j = true)) (fun u => ls.length - (intOf u).toNat)
        case atStart => exact ⟨0, rfl, Nat.zero_le _, ⟨fun j hj => by omega⟩⟩
        case round =>
          obtain ⟨k, rfl, hk, HOKS⟩ := hrel
          by_cases hlt : k < ls.length
          · obtain ⟨ad', A0, c0, e, hkc, hc0, hC0, hl0⟩ := HCD2.out.at k hlt
            cases e
            obtain ⟨x, hx⟩ : ∃ x, lth ls k = x := ⟨_, rfl⟩
            rw [hx] at hkc hc0 hC0 hl0
            have hch : okCh ls k = (decide (x.length = n0 ∧ x.length ≤ 8192) && x.all okSmp) := by unfold okCh; rw [hx, HN0.out]
            have HCH := Aside0.mk hch
            have HC0 := Aside0.mk hC0
            clear hx hch hC0 hc0
            by_cases hq : x.length = n0
            · by_cases hq2 : x.length ≤ 8192
              · have d3 : ((x.length : Int) != (n0 : Int)) = false := by rw [hq]; simp
                have d4 : decide ((8192 : Int) < (x.length : Int)) = false := by simp; omega
                have HQ := Aside0.mk hq
                clear hq
                go_wp2_with fail
                go_loop [46] (fun u => ∃ i : Nat, u = .int .i64 (i : Int) ∧ i ≤ x.length ∧ Aside0 (x.all okSmp = (x.drop i).all okSmp)) (fun u => x.length - (intOf u).toNat)
                case atStart => exact ⟨0, rfl, Nat.zero_le _, ⟨rfl⟩⟩
                case round =>
                  obtain ⟨i, rfl, hi, HAL⟩ := hrel
                  by_cases hil : i < x.length
                  · obtain ⟨ad5, rfl, hv⟩ := at_i64 HC0.out i hil
                    have had := all_drop hil
                    obtain ⟨v, ev⟩ : ∃ v, x.getD i 0 = v := ⟨_, rfl⟩
                    rw [ev] at hv had
                    by_cases hlo : v < -32768
                    · have d5 : decide (v < -32768) = true := decide_eq_true hlo
                      have HNO : Aside0 (ok = false) := ⟨by rw [← HOK.out]; exact okSnd_no hlt (by rw [HCH.out, HAL.out, had]; simp [okSmp]; omega)⟩
                      clear had ev hlo
                      go_wp2_with fail
                      go_ret
                      exact ⟨by rw [HNO.out]; rfl, HB2.out⟩
                    · by_cases hhi : 32767 < v
                      · have d5 : decide (v < -32768) = false := decide_eq_false hlo
                        have d6 : decide (32767 < v) = true := decide_eq_true hhi
                        have HNO : Aside0 (ok = false) := ⟨by rw [← HOK.out]; exact okSnd_no hlt (by rw [HCH.out, HAL.out, had]; simp [okSmp]; omega)⟩
                        clear had ev hlo hhi
                        go_wp2_with fail
                        go_ret
                        exact ⟨by rw [HNO.out]; rfl, HB2.out⟩
                      · have d5 : decide (v < -32768) = false := decide_eq_false hlo
                        have d6 : decide (32767 < v) = false := decide_eq_false hhi
                        have HAL2 : Aside0 (x.all okSmp = (x.drop (i + 1)).all okSmp) := ⟨by rw [HAL.out, had]; simp [okSmp]; omega⟩
                        clear had ev hlo hhi
                        go_wp2_with fail
                        go_round
                        case rel => exact ⟨i + 1, by go_num, by omega, HAL2⟩
                        case measure => simp [intOf]; omega
                  · have hi2 : i = x.length := by omega
                    have HOKS2 : Aside0 (∀ j, j < k + 1 → okCh ls j = true) := ⟨fun j hj => by
                      by_cases hjk : j = k
                      · rw [hjk, HCH.out, HAL.out, hi2, List.drop_length, decide_eq_true ⟨HQ.out, hq2⟩]; rfl
                      · exact HOKS.out j (by omega)⟩
                    clear hi2
                    go_wp2_with fail
                    go_round
                    case rel => exact ⟨k + 1, by go_num, by omega, HOKS2⟩
                    case measure => simp [intOf]; omega
              · have d3 : ((x.length : Int) != (n0 : Int)) = false := by rw [hq]; simp
                have d4 : decide ((8192 : Int) < (x.length : Int)) = true := by simp; omega
                have HNO : Aside0 (ok = false) := ⟨by rw [← HOK.out]; exact okSnd_no hlt (by rw [HCH.out, decide_eq_false (fun q => hq2 q.2)]; rfl)⟩
                clear hq
                go_wp2_with fail
                go_ret
                exact ⟨by rw [HNO.out]; rfl, HB2.out⟩
            · have d3 : ((x.length : Int) != (n0 : Int)) = true := bne_iff_ne.2 (by omega)
              have HNO : Aside0 (ok = false) := ⟨by rw [← HOK.out]; exact okSnd_no hlt (by rw [HCH.out, decide_eq_false (fun q => hq q.1)]; rfl)⟩
              go_wp2_with fail
              go_ret
              exact ⟨by rw [HNO.out]; rfl, HB2.out⟩
          · obtain rfl : k = ls.length := by omega
            have HYES : Aside0 (ok = true) := ⟨by rw [← HOK.out]; exact (okSnd_iff r ls).2 ⟨of_decide_eq_true HRB.out, ⟨hn, hn2⟩, HOKS.out⟩⟩
            go_wp2_with fail
            go_ret
            exact ⟨by rw [HYES.out]; rfl, HB2.out⟩
      · have d2 : decide ((2 : Int) < (ls.length : Int)) = true := by simp; omega
        have HNO : Aside0 (ok = false) := ⟨by rw [← HOK.out]; unfold okSnd; rw [decide_eq_false (fun (q : 1 ≤ ls.length ∧ ls.length ≤ 2) => hn2 q.2)]; simp⟩
        go_enter Tryd.func54, Tryd.ntmps54
        go_wp2_with fail
        rw [← HW1.out]
        repeat (go_quiet (first | (go_at_call 70; refine (HCON.out _ (by first | exact below_drewN HB1.out _ | exact below_drew HB1.out | exact HB1.out)).mono ?_; rintro e w' ⟨rfl, hw⟩; exact ⟨rfl, _, hw⟩)); try go_wp2)
        go_wp2_with fail
        go_ret
        exact ⟨by rw [HNO.out]; rfl, below_drewN HB1.out _⟩
    · have d1 : decide ((ls.length : Int) < 1) = true := by simp; omega
      have HNO : Aside0 (ok = false) := ⟨by rw [← HOK.out]; unfold okSnd; rw [decide_eq_false (fun (q : 1 ≤ ls.length ∧ ls.length ≤ 2) => hn q.1)]; simp⟩
      go_enter Tryd.func54, Tryd.ntmps54
      go_wp2_with fail
      rw [← HW1.out]
      repeat (go_quiet (first | (go_at_call 70; refine (HCON.out _ (by first | exact below_drewN HB1.out _ | exact below_drew HB1.out | exact HB1.out)).mono ?_; rintro e w' ⟨rfl, hw⟩; exact ⟨rfl, _, hw⟩)); try go_wp2)
      go_wp2_with fail
      go_ret
      exact ⟨by rw [HNO.out]; rfl, below_drewN HB1.out _⟩
end Go.Proofs.YthlmnnjbpikijaaDoor.P
end
section
namespace Go.Proofs.YthlmnnjbpikijaaDoor.P
open Go.RowKit Go.Shelf Go.Proofs.YthlmnnjbpikijaaDoor.Bits Go.Proofs.YthlmnnjbpikijaaDoorW.PrintWords Go.Proofs.YthlmnnjbpikijaaDoorW.PrintLast Go.Proofs.YthlmnnjbpikijaaDoorW.PrintMore
set_option linter.unusedVariables false
set_option linter.unusedSimpArgs false
attribute [local go_sem ↓] Go.wp_at_zero Go.wp_at_succ
noncomputable def enF (i : Nat) : Field := (Tryd.prog.fieldsOf 56).toList.getD i default
theorem enF_list : (Tryd.prog.fieldsOf 56).toList = [enF 0, enF 1] := by kernel_rfl
theorem neq_en (a b : ByteArray) (w : World) : (binOp .neq 56 (.agg #[.string a, .string b]) (.agg #[.string a, .string b])).run Tryd.prog w = .ok (.bool false) w := by
  have hu : Tryd.prog.underlying 56 = some (.struct (Tryd.prog.fieldsOf 56)) := by kernel_rfl
  have hs : Tryd.prog.stoodInHeld 56 = false := by kernel_rfl
  have h0 : Tryd.prog.underlying (enF 0).type = some .string := by kernel_rfl
  have h1 : Tryd.prog.underlying (enF 1).type = some .string := by kernel_rfl
  have e : (Op.eqFields 9999 #[.string a, .string b] #[.string a, .string b] (Tryd.prog.fieldsOf 56).toList).run Tryd.prog w = .ok (true && true) w := by
    rw [enF_list]
    refine eqf_cons (r := true) (by kernel_rfl) (a := .string a) (by kernel_rfl) (b := .string a) (by kernel_rfl) ?_ (eqf_last (by kernel_rfl) (a := .string b) (by kernel_rfl) (b := .string b) (by kernel_rfl) ?_)
    · rw [run_equalIn_string w 9998 _ a a h0]; simp
    · rw [run_equalIn_string w 9998 _ b b h1]; simp
  rw [run_neq_struct]
  have e2 : (Op.equalIn 10000 56 (.agg #[.string a, .string b]) (.agg #[.string a, .string b])).run Tryd.prog w = .ok (true && true) w := eqA_of hu hs e
  rw [e2]
  rfl
set_option maxHeartbeats 4000000 in
set_option maxRecDepth 100000 in
theorem SameTag_any (s u : Int) (A A' : Option Addr) (c c' : Nat) (l : List S56) (w : World) (h : FD w A c l) (h' : FD w A' c' l) :
    Calls Tryd.prog 20 #[tagV s u A l.length c, tagV s u A' l.length c'] w fun e w' => e = .returned (.bool true) ∧ Below w.heap.size w w' := by
  have HF := Aside0.mk h
  have HF' := Aside0.mk h'
  obtain ⟨w1, hw1⟩ : ∃ w1, w1 = (w.alloc (tagObj s u A l.length c)).alloc (tagObj s u A' l.length c') := ⟨_, rfl⟩
  have HB1 : Aside0 (Below w.heap.size w w1) := ⟨by rw [hw1]; exact below_alloc (below_alloc (Below.refl _ _) _) _⟩
  have HX1 : Aside0 (w1.heap[w.heap.size]? = some (tagObj s u A l.length c)) := ⟨by rw [hw1]; exact blk_alloc' (World.alloc_heap_new w _) _⟩
  have HY1 : Aside0 (w1.heap[w.heap.size + 1]? = some (tagObj s u A' l.length c')) := ⟨by rw [hw1]; have := World.alloc_heap_new (w.alloc (tagObj s u A l.length c)) (tagObj s u A' l.length c'); simpa using this⟩
  have HW1 := Aside0.mk hw1
  have hne := neq_en
  clear h h' hw1
  go_enter Tryd.func20, Tryd.ntmps20
  go_wp2_with fail
  rw [← HW1.out]
  go_loopw [30] (fun u wr => ∃ k : Nat, u = .int .i64 (k : Int) ∧ k ≤ l.length ∧ Aside0 (Below w1.heap.size w1 wr)) (fun u _ => l.length - (intOf u).toNat)
  case atStart => exact ⟨0, rfl, Nat.zero_le _, ⟨Below.refl _ _⟩⟩
  case round =>
    obtain ⟨k, rfl, hk, HB⟩ := hrel
    by_cases hlt : k < l.length
    · have hbw := HB1.out.trans (HB.out.mono HB1.out.size)
      have hX := (HB.out.block _ (lt_of_block HX1.out)).trans HX1.out
      have hY := (HB.out.block _ (lt_of_block HY1.out)).trans HY1.out
      have x2 : wr.cell? ⟨w.heap.size, 2, none⟩ = some (.slice A l.length c) := by rw [cell_of_row _ _ _ _ _ _ hX]; rfl
      have y2 : wr.cell? ⟨w.heap.size + 1, 2, none⟩ = some (.slice A' l.length c') := by rw [cell_of_row _ _ _ _ _ _ hY]; rfl
      obtain ⟨ad, rfl, hx0, hx1⟩ := at_T56 (Kd.C_below HF.out.C hbw) (k : Int) (by omega) (by omega)
      obtain ⟨ad', rfl, hy0, hy1⟩ := at_T56 (Kd.C_below HF'.out.C hbw) (k : Int) (by omega) (by omega)
      rw [show rd_T56 l (k : Int) = nth l k from rfl] at hx0 hx1 hy0 hy1
      rw [Int.toNat_natCast] at hx0 hx1 hy0 hy1
      have hl9 := HF.out.len
      generalize (nth l k).f0 = f0 at *
      generalize (nth l k).f1 = f1 at *
      clear hbw hX hY
      go_wp2
      repeat (go_quiet (fail); try go_wp2)
      refine ⟨⟨k + 1, by go_num, by omega, ⟨below_drewN HB.out _⟩⟩, ?_⟩
      simp [intOf]
      omega
    · obtain rfl : k = l.length := by omega
      go_wp2_with fail
      go_ret
      exact ⟨rfl, HB1.out.trans (HB.out.mono HB1.out.size)⟩
end Go.Proofs.YthlmnnjbpikijaaDoor.P
end
