/- The reference's fields: the contract. -/
import Derived.Test.YtnaklnehichhpaaDoorRe
import Derived.Deep.RegionHeld3
namespace Go.Proofs.YtnaklnehichhpaaDoor.P
open Go.RowKit Go.Shelf Go.Proofs.YtnaklnehichhpaaDoor.Bits Go.Proofs.YtnaklnehichhpaaDoorW.PrintWords Go.Proofs.YtnaklnehichhpaaDoorW.PrintLast Go.Proofs.YtnaklnehichhpaaDoorW.PrintMore
set_option linter.unusedVariables false
set_option linter.unusedSimpArgs false

theorem RB_lt {S : Nat → Prop} {w : World} {v : Value} {B : List Int} (h : RB S w v B) : RB (fun k => S k ∧ k < w.heap.size) w v B := by
  refine ⟨fun k hk => ⟨h.1 k hk, ?_⟩, h.2⟩
  rcases (Kd.own_of_R h).2 with ⟨rfl, _⟩ | ⟨g, cap, cur, rfl, _, hg, _⟩
  · simp [Value.ownBlock] at hk
  · have : g = k := by simpa [Value.ownBlock] using hk
    subst this
    exact lt_of_block hg
/-- The state of fields: the tape, its bits, the header that is being made. -/
structure FS (w0 W : World) (S : Nat → Prop) (p t : Nat) (A : Option Addr) (c : Nat) (L : List Int) (a : Nat) (cs : Array Value) : Prop where
  tape : W.heap[t]? = some (tapeObj A L.length c a)
  row : RB S W (.slice A L.length c) L
  hd : W.heap[p]? = some (.cells cs 23 (0, 0))
  low : Below p w0 W
  lt : p < t
  off : ∀ k, S k → k ≠ t ∧ k ≠ p
theorem FS.get {w0 W : World} {S : Nat → Prop} {p t : Nat} {A : Option Addr} {c : Nat} {L : List Int} {a : Nat} {cs : Array Value} (h : FS w0 W S p t A c L a cs) (n : Nat) (h01 : is01 L) (hn : a + n ≤ L.length) (hl : L.length ≤ 1000000) (hn2 : n ≤ 32) (hp : p ≤ w0.heap.size) (x : Int) (hx : val ((L.drop a).take n) = x) :
    Calls Tryd.prog 56 #[.pointer (some ⟨t, 0, none⟩), .int .i64 (n : Int)] W fun e w' => e = .returned (.int .i64 x) ∧ FS w0 w' S p t A c L (a + n) cs := by
  refine (TGet_any S t A c L a n W h.tape h.row (fun k hk => (h.off k hk).1) h01 hn hl hn2).mono ?_
  rintro e w' ⟨rfl, ht, hf⟩
  rw [hx]
  refine ⟨rfl, ht, R_fr h.row hf (fun k hk _ => (h.off k hk).1), blk_fr h.hd hf (by have := h.lt; omega), h.low.trans (hf.to_below (Nat.le_trans hp h.low.size) (fun k hk => by have := h.lt; omega)), h.lt, h.off⟩
theorem FS.set {w0 W : World} {S : Nat → Prop} {p t : Nat} {A : Option Addr} {c : Nat} {L : List Int} {a : Nat} {cs : Array Value} (h : FS w0 W S p t A c L a cs) (i : Nat) (v : Value) (cs' : Array Value) (e : cs.setIfInBounds i v = cs') : FS w0 (W.setCell ⟨p, i, none⟩ v) S p t A c L a cs' := by
  have hf : Fr (fun k => k = p) W (W.setCell ⟨p, i, none⟩ v) := Fr.setCell (S := fun k => k = p) (Fr.refl _ _) (p := ⟨p, i, none⟩) (fun _ => rfl) _
  refine ⟨blk_fr h.tape hf (by have := h.lt; omega), R_fr h.row hf (fun k hk _ => (h.off k hk).2), ?_, h.low.setCell (Nat.le_refl _) v, h.lt, h.off⟩
  rw [heap_setCell_same _ _ _ _ _ _ h.hd, e]
theorem FS.below {w0 W W' : World} {S : Nat → Prop} {p t : Nat} {A : Option Addr} {c : Nat} {L : List Int} {a : Nat} {cs : Array Value} (h : FS w0 W S p t A c L a cs) (hb : Below W.heap.size W W') (hp : p ≤ w0.heap.size) : FS w0 W' S p t A c L a cs :=
  ⟨blk_fr h.tape (Fr.below hb (fun _ => False)) (fun h => h), R_fr h.row (Fr.below hb (fun _ => False)) (fun _ _ _ h => h), blk_fr h.hd (Fr.below hb (fun _ => False)) (fun h => h), h.low.trans (hb.mono (Nat.le_trans hp h.low.size)), h.lt, h.off⟩
theorem results_ctt {P : Program} {fn : Func} {p u q : Tmp} {ty : TypeId} (h : fn.results = #[.cell p ty, .tmp u, .tmp q]) (tmps : Array Value) (w : World) (g : Nat) (t : TypeId) (cs : Array Value) (fr : Nat × Nat) (d : TypeDesc)
    (hp : tmps.getD p undef = .pointer (some ⟨g, 0, none⟩)) (hg : w.heap[g]? = some (.cells cs t fr))
    (hu : P.underlying ty = some d) (hd : (match d with | .struct _ | .array _ _ => true | _ => false) = true) (hi : (P.info? ty).map (·.size) = some cs.size) :
    (results fn tmps).run P w = .ok (.tuple #[.agg cs, tmps.getD u undef, tmps.getD q undef]) w := by
  have hp' : tmps[p]?.getD undef = .pointer (some ⟨g, 0, none⟩) := by simpa using hp
  simp [results, h, hp', asAddr, run_loadVar_row w g t ty cs fr d hg hu hd hi]
theorem gv_L (B : List Int) (a n : Nat) : val (((ofB B 56).drop a).take n) = gv B a n := rfl

set_option maxHeartbeats 4000000 in
set_option maxRecDepth 100000 in
theorem fields22_any (A0 : Option Addr) (c0 : Nat) (B : List Int) (w : World) (hC : Kd.C (Kd.int .u8) w A0 B.length B) (h8 : is8 B) (hB : 7 ≤ B.length) (hBl : B.length ≤ 1000000000) :
    Calls Tryd.prog 38 #[.slice A0 B.length c0] w fun e w' => e = .returned (.tuple #[(hdOf B).val, .int .i64 (gv B 34 11), .int .i64 (gv B 54 2)]) ∧ Below w.heap.size w w' := by
  obtain ⟨x0, e0⟩ : ∃ x, gv B 12 6 = x := ⟨_, rfl⟩
  obtain ⟨x1, e1⟩ : ∃ x, gv B 18 1 = x := ⟨_, rfl⟩
  obtain ⟨x3, e3⟩ : ∃ x, gv B 19 1 = x := ⟨_, rfl⟩
  obtain ⟨x2, e2⟩ : ∃ x, gv B 20 4 = x := ⟨_, rfl⟩
  obtain ⟨x4, e4⟩ : ∃ x, gv B 24 3 = x := ⟨_, rfl⟩
  obtain ⟨x5, e5⟩ : ∃ x, gv B 27 7 = x := ⟨_, rfl⟩
  obtain ⟨xm, em⟩ : ∃ x, gv B 34 11 = x := ⟨_, rfl⟩
  obtain ⟨x6, e6⟩ : ∃ x, gv B 45 9 = x := ⟨_, rfl⟩
  obtain ⟨xl, el⟩ : ∃ x, gv B 54 2 = x := ⟨_, rfl⟩
  have b0 := gv_bound B 12 6
  have b1 := gv_bound B 18 1
  have b3 := gv_bound B 19 1
  have b2 := gv_bound B 20 4
  have b4 := gv_bound B 24 3
  have b5 := gv_bound B 27 7
  have bm := gv_bound B 34 11
  have b6 := gv_bound B 45 9
  rw [e0] at b0
  rw [e1] at b1
  rw [e2] at b2
  rw [e3] at b3
  rw [e4] at b4
  rw [e5] at b5
  rw [em] at bm
  rw [e6] at b6
  simp only [Int.reducePow] at b0 b1 b2 b3 b4 b5 b6 bm
  obtain ⟨rt, hrt⟩ : ∃ r, r = rates.getD x2.toNat 0 := ⟨_, rfl⟩
  have HHD : Aside0 ((hdOf B).val = .agg #[.int .i64 x0, .bool (x1 == 1), .int .i64 rt, .int .i64 (x3 + 1), .int .i64 x4, .int .i64 (x5 + 1), .int .i64 x6]) := ⟨by
    unfold hdOf HD.val
    dsimp only
    rw [e0, e1, e2, e3, e4, e5, e6, hrt]
    have : decide (x1 = 1) = (x1 == 1) := by rw [Bool.eq_iff_iff]; simp
    rw [this]⟩
  obtain ⟨w1, hw1⟩ : ∃ w1, w1 = w.alloc (.cells #[.int .i64 0, .bool false, .int .i64 0, .int .i64 0, .int .i64 0, .int .i64 0, .int .i64 0] 23) := ⟨_, rfl⟩
  obtain ⟨p, hp⟩ : ∃ p, p = w.heap.size := ⟨_, rfl⟩
  have hb1 : Below w.heap.size w w1 := by rw [hw1]; exact below_alloc (Below.refl _ _) _
  have hs1 : w1.heap.size = p + 1 := by rw [hw1, hp]; simp
  have HK1 : Aside0 (w1.heap[p]? = some (.cells #[.int .i64 0, .bool false, .int .i64 0, .int .i64 0, .int .i64 0, .int .i64 0, .int .i64 0] 23 (0, 0))) := ⟨by rw [hw1, hp]; exact World.alloc_heap_new w _⟩
  have HBI := Aside0.mk (RBits_any A0 c0 56 B w1 (Kd.C_below hC hb1) h8 (by omega) (by omega) hBl)
  have HL : Aside0 ((ofB B 56).length = 56) := ⟨ofB_length _ _⟩
  have H01 := Aside0.mk (ofB_01 B 56)
  have HV := Aside0.mk (gv_L B)
  generalize ofB B 56 = L at *
  have HB1 := Aside0.mk hb1
  have HW1 := Aside0.mk hw1
  have HP := Aside0.mk hp
  have HS1 := Aside0.mk hs1
  have E0 := Aside0.mk e0
  have E1 := Aside0.mk e1
  have E2 := Aside0.mk e2
  have E3 := Aside0.mk e3
  have E4 := Aside0.mk e4
  have E5 := Aside0.mk e5
  have E6 := Aside0.mk e6
  have EM := Aside0.mk em
  have EL := Aside0.mk el
  have HRT := Aside0.mk hrt
  clear hC h8 hw1 hp hb1 hs1 e0 e1 e2 e3 e4 e5 e6 em el hrt
  have HE : Aside0 (w.alloc (.cells #[.int .i64 0, .bool false, .int .i64 0, .int .i64 0, .int .i64 0, .int .i64 0, .int .i64 0] 23) = w1) := ⟨HW1.out.symm⟩
  go_enter Tryd.func38, Tryd.ntmps38
  go_wp2_with fail
  rw [HE.out, ← HP.out]
  refine HBI.out.mono ?_
  rintro e w2 ⟨v2, rfl, hr, hb⟩
  obtain ⟨A, c, hv⟩ := Kd.R_slice hr
  subst hv
  have hr2 := RB_lt hr
  obtain ⟨w3, hw3⟩ : ∃ w3, w3 = w2.alloc (tapeObj A L.length c 12) := ⟨_, rfl⟩
  obtain ⟨t, ht⟩ : ∃ t, t = w2.heap.size := ⟨_, rfl⟩
  have hb3 : Below w2.heap.size w2 w3 := by rw [hw3]; exact below_alloc (Below.refl _ _) _
  have hfs : FS w w3 (fun k => w1.heap.size ≤ k ∧ k < w2.heap.size) p t A c L 12 #[.int .i64 0, .bool false, .int .i64 0, .int .i64 0, .int .i64 0, .int .i64 0, .int .i64 0] := by
    refine ⟨by rw [hw3, ht]; exact World.alloc_heap_new w2 _, R_fr hr2 (Fr.below hb3 (fun _ => False)) (fun _ _ _ h => h), blk_fr (blk_fr HK1.out (Fr.below hb (fun _ => False)) (fun h => h)) (Fr.below hb3 (fun _ => False)) (fun h => h), ?_, ?_, fun k hk => ?_⟩
    · rw [HP.out]
      exact (HB1.out.trans (hb.mono HB1.out.size)).trans (hb3.mono (HB1.out.trans (hb.mono HB1.out.size)).size)
    · have := hb.size; have := HS1.out; omega
    · have := HS1.out; omega
  have HF0 := Aside0.mk hfs
  have HW3 := Aside0.mk hw3
  have HT := Aside0.mk ht
  have HPW : Aside0 (p ≤ w.heap.size) := ⟨by have := HP.out; omega⟩
  have HE3 : Aside0 (w2.alloc (.cells #[.slice A L.length c, .int .i64 12, .int .i64 0] 103) = w3) := ⟨hw3.symm⟩
  clear hr hb hr2 hw3 ht hb3 hfs
  go_wp2_with fail
  rw [HE3.out, ← HT.out]
  generalize (fun k => w1.heap.size ≤ k ∧ k < w2.heap.size) = S at HF0
  refine (HF0.out.get 6 H01.out (by rw [HL.out]; omega) (by rw [HL.out]; omega) (by omega) HPW.out x0 (by rw [HV.out]; exact E0.out)).mono ?_
  rintro e v0 ⟨rfl, hf⟩
  have HG0 := Aside0.mk hf
  have fz : v0.frozen? ⟨p, 0, none⟩ = false := blk_frozen hf.hd 0
  obtain ⟨u, hu⟩ : ∃ u, v0.cell? ⟨p, 0, none⟩ = some u := ⟨_, by rw [cell_of_row v0 p 0 _ _ (0, 0) hf.hd]; rfl⟩
  clear hf
  go_wp2_with fail
  clear fz hu
  have HF1 := Aside0.mk (HG0.out.set 0 (.int .i64 x0) #[.int .i64 x0, .bool false, .int .i64 0, .int .i64 0, .int .i64 0, .int .i64 0, .int .i64 0] rfl)
  obtain ⟨w10, hw⟩ : ∃ W, W = v0.setCell ⟨p, 0, none⟩ (.int .i64 x0) := ⟨_, rfl⟩
  rw [← hw] at HF1 ⊢
  clear hw HG0 u
  refine (HF1.out.get 1 H01.out (by rw [HL.out]; omega) (by rw [HL.out]; omega) (by omega) HPW.out x1 (by rw [HV.out]; exact E1.out)).mono ?_
  rintro e v1 ⟨rfl, hf⟩
  have HG1 := Aside0.mk hf
  have fz : v1.frozen? ⟨p, 1, none⟩ = false := blk_frozen hf.hd 1
  obtain ⟨u, hu⟩ : ∃ u, v1.cell? ⟨p, 1, none⟩ = some u := ⟨_, by rw [cell_of_row v1 p 1 _ _ (0, 0) hf.hd]; rfl⟩
  clear hf
  go_wp2_with fail
  clear fz hu
  have HF2 := Aside0.mk (HG1.out.set 1 (.bool (x1 == 1)) #[.int .i64 x0, .bool (x1 == 1), .int .i64 0, .int .i64 0, .int .i64 0, .int .i64 0, .int .i64 0] rfl)
  obtain ⟨w11, hw⟩ : ∃ W, W = v1.setCell ⟨p, 1, none⟩ (.bool (x1 == 1)) := ⟨_, rfl⟩
  rw [← hw] at HF2 ⊢
  clear hw HG1 u
  refine (HF2.out.get 1 H01.out (by rw [HL.out]; omega) (by rw [HL.out]; omega) (by omega) HPW.out x3 (by rw [HV.out]; exact E3.out)).mono ?_
  rintro e v2 ⟨rfl, hf⟩
  have HG2 := Aside0.mk hf
  have fz : v2.frozen? ⟨p, 3, none⟩ = false := blk_frozen hf.hd 3
  obtain ⟨u, hu⟩ : ∃ u, v2.cell? ⟨p, 3, none⟩ = some u := ⟨_, by rw [cell_of_row v2 p 3 _ _ (0, 0) hf.hd]; rfl⟩
  clear hf
  go_wp2_with fail
  clear fz hu
  have HF3 := Aside0.mk (HG2.out.set 3 (.int .i64 (1 + x3)) #[.int .i64 x0, .bool (x1 == 1), .int .i64 0, .int .i64 (1 + x3), .int .i64 0, .int .i64 0, .int .i64 0] rfl)
  obtain ⟨w12, hw⟩ : ∃ W, W = v2.setCell ⟨p, 3, none⟩ (.int .i64 (1 + x3)) := ⟨_, rfl⟩
  rw [← hw] at HF3 ⊢
  clear hw HG2 u
  refine (HF3.out.get 4 H01.out (by rw [HL.out]; omega) (by rw [HL.out]; omega) (by omega) HPW.out x2 (by rw [HV.out]; exact E2.out)).mono ?_
  rintro e v3 ⟨rfl, hf⟩
  have HG3 := Aside0.mk hf
  clear hf
  go_wp2_with fail
  refine (Rates_any v3).mono ?_
  rintro e v4 ⟨Ar, rfl, hcr, hb⟩
  have HG4 := Aside0.mk (HG3.out.below hb HPW.out)
  clear hcr hb
  by_cases hlt : x2 < 9
  · have q1 : decide (x2 < 9) = true := by simpa using hlt
    go_wp2_with fail
    refine (Rates_any v4).mono ?_
    rintro e v5 ⟨Ar, rfl, hcr, hb⟩
    have hf5 := HG4.out.below hb HPW.out
    obtain ⟨ad, e, hx⟩ := at64 hcr x2.toNat (by omega)
    subst e
    rw [← HRT.out] at hx
    have fz : v5.frozen? ⟨p, 2, none⟩ = false := blk_frozen hf5.hd 2
    obtain ⟨u, hu⟩ : ∃ u, v5.cell? ⟨p, 2, none⟩ = some u := ⟨_, by rw [cell_of_row v5 p 2 _ _ (0, 0) hf5.hd]; rfl⟩
    have HG5 := Aside0.mk hf5
    have i1 : 0 ≤ x2 := b2.1
    clear hcr hb hf5 HG4
    go_wp2_with fail
    clear fz hu hx
    have HF5 := Aside0.mk (HG5.out.set 2 (.int .i64 rt) #[.int .i64 x0, .bool (x1 == 1), .int .i64 rt, .int .i64 (1 + x3), .int .i64 0, .int .i64 0, .int .i64 0] rfl)
    obtain ⟨w14, hw⟩ : ∃ W, W = v5.setCell ⟨p, 2, none⟩ (.int .i64 rt) := ⟨_, rfl⟩
    rw [← hw] at HF5 ⊢
    clear hw HG5 u
    (try simp only [Exit.then])
    (try go_wp2_with fail)
    refine (HF5.out.get 3 H01.out (by rw [HL.out]; omega) (by rw [HL.out]; omega) (by omega) HPW.out x4 (by rw [HV.out]; exact E4.out)).mono ?_
    rintro e v5 ⟨rfl, hf⟩
    have HG5 := Aside0.mk hf
    have fz : v5.frozen? ⟨p, 4, none⟩ = false := blk_frozen hf.hd 4
    obtain ⟨u, hu⟩ : ∃ u, v5.cell? ⟨p, 4, none⟩ = some u := ⟨_, by rw [cell_of_row v5 p 4 _ _ (0, 0) hf.hd]; rfl⟩
    clear hf
    go_wp2_with fail
    clear fz hu
    have HF6 := Aside0.mk (HG5.out.set 4 (.int .i64 x4) #[.int .i64 x0, .bool (x1 == 1), .int .i64 rt, .int .i64 (1 + x3), .int .i64 x4, .int .i64 0, .int .i64 0] rfl)
    obtain ⟨w15, hw⟩ : ∃ W, W = v5.setCell ⟨p, 4, none⟩ (.int .i64 x4) := ⟨_, rfl⟩
    rw [← hw] at HF6 ⊢
    clear hw HG5 u
    refine (HF6.out.get 7 H01.out (by rw [HL.out]; omega) (by rw [HL.out]; omega) (by omega) HPW.out x5 (by rw [HV.out]; exact E5.out)).mono ?_
    rintro e v6 ⟨rfl, hf⟩
    have HG6 := Aside0.mk hf
    have fz : v6.frozen? ⟨p, 5, none⟩ = false := blk_frozen hf.hd 5
    obtain ⟨u, hu⟩ : ∃ u, v6.cell? ⟨p, 5, none⟩ = some u := ⟨_, by rw [cell_of_row v6 p 5 _ _ (0, 0) hf.hd]; rfl⟩
    clear hf
    go_wp2_with fail
    clear fz hu
    have HF7 := Aside0.mk (HG6.out.set 5 (.int .i64 (1 + x5)) #[.int .i64 x0, .bool (x1 == 1), .int .i64 rt, .int .i64 (1 + x3), .int .i64 x4, .int .i64 (1 + x5), .int .i64 0] rfl)
    obtain ⟨w16, hw⟩ : ∃ W, W = v6.setCell ⟨p, 5, none⟩ (.int .i64 (1 + x5)) := ⟨_, rfl⟩
    rw [← hw] at HF7 ⊢
    clear hw HG6 u
    refine (HF7.out.get 11 H01.out (by rw [HL.out]; omega) (by rw [HL.out]; omega) (by omega) HPW.out xm (by rw [HV.out]; exact EM.out)).mono ?_
    rintro e v7 ⟨rfl, hf⟩
    have HG7 := Aside0.mk hf
    clear hf
    go_wp2_with fail
    refine (HG7.out.get 9 H01.out (by rw [HL.out]; omega) (by rw [HL.out]; omega) (by omega) HPW.out x6 (by rw [HV.out]; exact E6.out)).mono ?_
    rintro e v8 ⟨rfl, hf⟩
    have HG8 := Aside0.mk hf
    have fz : v8.frozen? ⟨p, 6, none⟩ = false := blk_frozen hf.hd 6
    obtain ⟨u, hu⟩ : ∃ u, v8.cell? ⟨p, 6, none⟩ = some u := ⟨_, by rw [cell_of_row v8 p 6 _ _ (0, 0) hf.hd]; rfl⟩
    clear hf
    go_wp2_with fail
    clear fz hu
    have HF9 := Aside0.mk (HG8.out.set 6 (.int .i64 x6) #[.int .i64 x0, .bool (x1 == 1), .int .i64 rt, .int .i64 (1 + x3), .int .i64 x4, .int .i64 (1 + x5), .int .i64 x6] rfl)
    obtain ⟨w18, hw⟩ : ∃ W, W = v8.setCell ⟨p, 6, none⟩ (.int .i64 x6) := ⟨_, rfl⟩
    rw [← hw] at HF9 ⊢
    clear hw HG8 u
    have hk := HF9.out.hd
    have z0 : w18.cell? ⟨p, 0, none⟩ = some (.int .i64 x0) := by rw [cell_of_row w18 p 0 _ _ (0, 0) hk]; rfl
    have z1 : w18.cell? ⟨p, 1, none⟩ = some (.bool (x1 == 1)) := by rw [cell_of_row w18 p 1 _ _ (0, 0) hk]; rfl
    have z2 : w18.cell? ⟨p, 2, none⟩ = some (.int .i64 rt) := by rw [cell_of_row w18 p 2 _ _ (0, 0) hk]; rfl
    have z3 : w18.cell? ⟨p, 3, none⟩ = some (.int .i64 (1 + x3)) := by rw [cell_of_row w18 p 3 _ _ (0, 0) hk]; rfl
    have z4 : w18.cell? ⟨p, 4, none⟩ = some (.int .i64 x4) := by rw [cell_of_row w18 p 4 _ _ (0, 0) hk]; rfl
    have z5 : w18.cell? ⟨p, 5, none⟩ = some (.int .i64 (1 + x5)) := by rw [cell_of_row w18 p 5 _ _ (0, 0) hk]; rfl
    have z6 : w18.cell? ⟨p, 6, none⟩ = some (.int .i64 x6) := by rw [cell_of_row w18 p 6 _ _ (0, 0) hk]; rfl
    have HFD : Aside0 (FS w w18.drew S p t A c L 54 #[.int .i64 x0, .bool (x1 == 1), .int .i64 rt, .int .i64 (1 + x3), .int .i64 x4, .int .i64 (1 + x5), .int .i64 x6]) := ⟨HF9.out.below (below_drew (Below.refl _ _)) HPW.out⟩
    have HLD : Aside0 (∀ W : World, W.heap[p]? = some (.cells #[.int .i64 x0, .bool (x1 == 1), .int .i64 rt, .int .i64 (1 + x3), .int .i64 x4, .int .i64 (1 + x5), .int .i64 x6] 23 (0, 0)) → W.cell? ⟨p, 0, none⟩ = some (.int .i64 x0) ∧ W.cell? ⟨p, 1, none⟩ = some (.bool (x1 == 1)) ∧ W.cell? ⟨p, 2, none⟩ = some (.int .i64 rt) ∧ W.cell? ⟨p, 3, none⟩ = some (.int .i64 (1 + x3)) ∧ W.cell? ⟨p, 4, none⟩ = some (.int .i64 x4) ∧ W.cell? ⟨p, 5, none⟩ = some (.int .i64 (1 + x5)) ∧ W.cell? ⟨p, 6, none⟩ = some (.int .i64 x6)) := ⟨fun W hW => by refine ⟨?_, ?_, ?_, ?_, ?_, ?_, ?_⟩ <;> (rw [cell_of_row W _ _ _ _ _ hW]; rfl)⟩
    clear hk z0 z1 z2 z3 z4 z5 z6
    refine wp_region_held_drew (S := fun w' => w'.heap[p]? = some (.cells #[.int .i64 x0, .bool (x1 == 1), .int .i64 rt, .int .i64 (1 + x3), .int .i64 x4, .int .i64 (1 + x5), .int .i64 x6] 23 (0, 0))) (by kernel_rfl) HFD.out.hd (fun hHeld => ?_)
    refine wpAnyH_take (i := 0) (v := ?_) rfl (by kernel_rfl) (by kernel_rfl) (by kernel_rfl) (fun _ _ _ h => h) (Or.inl ⟨by rfl, ?_⟩) (by assumption) ?_
    rotate_left
    · (intro w hSw; (try dsimp only at hSw); obtain ⟨z0, z1, z2, z3, z4, z5, z6⟩ := HLD.out w hSw; clear hSw; go_simp; (try with_reducible rfl))
    (try simp only [Act.put, List.setIfInBounds_toArray, List.set_cons_zero, List.set_cons_succ])
    refine wpAnyH_take (i := 2) (v := ?_) rfl (by kernel_rfl) (by kernel_rfl) (by kernel_rfl) (fun _ _ _ h => h) (Or.inl ⟨by rfl, ?_⟩) (by assumption) ?_
    rotate_left
    · (intro w hSw; (try dsimp only at hSw); obtain ⟨z0, z1, z2, z3, z4, z5, z6⟩ := HLD.out w hSw; clear hSw; go_simp; (try with_reducible rfl))
    (try simp only [Act.put, List.setIfInBounds_toArray, List.set_cons_zero, List.set_cons_succ])
    refine wpAnyH_take (i := 1) (v := ?_) rfl (by kernel_rfl) (by kernel_rfl) (by kernel_rfl) (fun _ _ _ h => h) (Or.inl ⟨by rfl, ?_⟩) (by assumption) ?_
    rotate_left
    · (intro w hSw; (try dsimp only at hSw); obtain ⟨z0, z1, z2, z3, z4, z5, z6⟩ := HLD.out w hSw; clear hSw; go_simp; (try with_reducible rfl))
    (try simp only [Act.put, List.setIfInBounds_toArray, List.set_cons_zero, List.set_cons_succ])
    refine wpAnyH_ready (rs := [3]) (by kernel_rfl) (by simp) ?_
    refine AllReadyH.cons rfl (fun K hK => ?_) AllReadyH.nil
    go_simp
    refine (HFD.out.get 2 H01.out (by rw [HL.out]; omega) (by rw [HL.out]; omega) (by omega) HPW.out xl (by rw [HV.out]; exact EL.out)).mono ?_
    rintro e v10 ⟨rfl, hf⟩
    have HFE := Aside0.mk hf
    clear hf
    (try go_simp)
    refine hK.out _ _ ?_ (fun hHeld => ?_)
    · exact HFE.out.hd
    clear hK K
    (try simp only [Act.put, List.setIfInBounds_toArray, List.set_cons_zero, List.set_cons_succ])
    have HSR : Aside0 ((v10.setRow p #[.int .i64 x0, .bool (x1 == 1), .int .i64 rt, .int .i64 (1 + x3), .int .i64 x4, .int .i64 (1 + x5), .int .i64 x6]).heap[p]? = some (.cells #[.int .i64 x0, .bool (x1 == 1), .int .i64 rt, .int .i64 (1 + x3), .int .i64 x4, .int .i64 (1 + x5), .int .i64 x6] 23 (0, 0))) := ⟨setRow_heap _ _ _ _ _ _ HFE.out.hd⟩
    refine wpAnyH_ready (rs := [4]) (by kernel_rfl) (by simp) ?_
    refine AllReadyH.cons rfl (fun K hK => ?_) AllReadyH.nil
    refine step_store_row (by rfl) _ _ _ (by rfl) p #[.int .i64 x0, .bool (x1 == 1), .int .i64 rt, .int .i64 (1 + x3), .int .i64 x4, .int .i64 (1 + x5), .int .i64 x6] (by rfl) (by rfl) _ _ HFE.out.hd (by kernel_rfl) rfl (by kernel_rfl) ?_
    (try go_simp)
    refine hK.out _ _ ?_ (fun hHeld => ?_)
    · exact HSR.out
    clear hK K
    (try simp only [Act.put, List.setIfInBounds_toArray, List.set_cons_zero, List.set_cons_succ])
    refine wpAnyH_ready (rs := [5]) (by kernel_rfl) (by simp) ?_
    refine AllReadyH.cons rfl (fun K hK => ?_) AllReadyH.nil
    go_simp
    refine hK.out _ _ ?_ (fun hHeld => ?_)
    · exact HSR.out
    clear hK K
    (try simp only [Act.put, List.setIfInBounds_toArray, List.set_cons_zero, List.set_cons_succ])
    refine wpAnyH_ready (rs := [6]) (by kernel_rfl) (by simp) ?_
    refine AllReadyH.cons rfl (fun K hK => ?_) AllReadyH.nil
    go_simp
    refine hK.out _ _ ?_ (fun hHeld => ?_)
    · exact HSR.out
    clear hK K
    (try simp only [Act.put, List.setIfInBounds_toArray, List.set_cons_zero, List.set_cons_succ])
    refine wpAnyH_done (by kernel_rfl) ?_ _
    (try simp only [Exit.then])
    go_wp2_with fail
    have hbf : Below w.heap.size w (v10.setRow p #[.int .i64 x0, .bool (x1 == 1), .int .i64 rt, .int .i64 (1 + x3), .int .i64 x4, .int .i64 (1 + x5), .int .i64 x6]) := (by rw [← HP.out]; exact HFE.out.low.trans ((fr_setRow' _ _ _).to_below (Nat.le_trans HPW.out HFE.out.low.size) (fun k hk => by omega)))
    refine bodyPost_ret (results_ctt rfl _ _ p _ _ _ _ rfl HSR.out Tryd.underlying23 rfl (by kernel_rfl)) rfl ?_
    rw [EM.out, EL.out, HHD.out]
    refine ⟨?_, hbf⟩
    rw [Int.add_comm x3 1, Int.add_comm x5 1]
    rfl
  · have q1 : decide (x2 < 9) = false := by simpa using hlt
    go_wp2_with fail
    refine (HG4.out.get 3 H01.out (by rw [HL.out]; omega) (by rw [HL.out]; omega) (by omega) HPW.out x4 (by rw [HV.out]; exact E4.out)).mono ?_
    rintro e v5 ⟨rfl, hf⟩
    have HG5 := Aside0.mk hf
    have fz : v5.frozen? ⟨p, 4, none⟩ = false := blk_frozen hf.hd 4
    obtain ⟨u, hu⟩ : ∃ u, v5.cell? ⟨p, 4, none⟩ = some u := ⟨_, by rw [cell_of_row v5 p 4 _ _ (0, 0) hf.hd]; rfl⟩
    clear hf
    go_wp2_with fail
    clear fz hu
    have HF6 := Aside0.mk (HG5.out.set 4 (.int .i64 x4) #[.int .i64 x0, .bool (x1 == 1), .int .i64 0, .int .i64 (1 + x3), .int .i64 x4, .int .i64 0, .int .i64 0] rfl)
    obtain ⟨w15, hw⟩ : ∃ W, W = v5.setCell ⟨p, 4, none⟩ (.int .i64 x4) := ⟨_, rfl⟩
    rw [← hw] at HF6 ⊢
    clear hw HG5 u
    refine (HF6.out.get 7 H01.out (by rw [HL.out]; omega) (by rw [HL.out]; omega) (by omega) HPW.out x5 (by rw [HV.out]; exact E5.out)).mono ?_
    rintro e v6 ⟨rfl, hf⟩
    have HG6 := Aside0.mk hf
    have fz : v6.frozen? ⟨p, 5, none⟩ = false := blk_frozen hf.hd 5
    obtain ⟨u, hu⟩ : ∃ u, v6.cell? ⟨p, 5, none⟩ = some u := ⟨_, by rw [cell_of_row v6 p 5 _ _ (0, 0) hf.hd]; rfl⟩
    clear hf
    go_wp2_with fail
    clear fz hu
    have HF7 := Aside0.mk (HG6.out.set 5 (.int .i64 (1 + x5)) #[.int .i64 x0, .bool (x1 == 1), .int .i64 0, .int .i64 (1 + x3), .int .i64 x4, .int .i64 (1 + x5), .int .i64 0] rfl)
    obtain ⟨w16, hw⟩ : ∃ W, W = v6.setCell ⟨p, 5, none⟩ (.int .i64 (1 + x5)) := ⟨_, rfl⟩
    rw [← hw] at HF7 ⊢
    clear hw HG6 u
    refine (HF7.out.get 11 H01.out (by rw [HL.out]; omega) (by rw [HL.out]; omega) (by omega) HPW.out xm (by rw [HV.out]; exact EM.out)).mono ?_
    rintro e v7 ⟨rfl, hf⟩
    have HG7 := Aside0.mk hf
    clear hf
    go_wp2_with fail
    refine (HG7.out.get 9 H01.out (by rw [HL.out]; omega) (by rw [HL.out]; omega) (by omega) HPW.out x6 (by rw [HV.out]; exact E6.out)).mono ?_
    rintro e v8 ⟨rfl, hf⟩
    have HG8 := Aside0.mk hf
    have fz : v8.frozen? ⟨p, 6, none⟩ = false := blk_frozen hf.hd 6
    obtain ⟨u, hu⟩ : ∃ u, v8.cell? ⟨p, 6, none⟩ = some u := ⟨_, by rw [cell_of_row v8 p 6 _ _ (0, 0) hf.hd]; rfl⟩
    clear hf
    go_wp2_with fail
    clear fz hu
    have HF9 := Aside0.mk (HG8.out.set 6 (.int .i64 x6) #[.int .i64 x0, .bool (x1 == 1), .int .i64 0, .int .i64 (1 + x3), .int .i64 x4, .int .i64 (1 + x5), .int .i64 x6] rfl)
    obtain ⟨w18, hw⟩ : ∃ W, W = v8.setCell ⟨p, 6, none⟩ (.int .i64 x6) := ⟨_, rfl⟩
    rw [← hw] at HF9 ⊢
    clear hw HG8 u
    have hk := HF9.out.hd
    have z0 : w18.cell? ⟨p, 0, none⟩ = some (.int .i64 x0) := by rw [cell_of_row w18 p 0 _ _ (0, 0) hk]; rfl
    have z1 : w18.cell? ⟨p, 1, none⟩ = some (.bool (x1 == 1)) := by rw [cell_of_row w18 p 1 _ _ (0, 0) hk]; rfl
    have z2 : w18.cell? ⟨p, 2, none⟩ = some (.int .i64 0) := by rw [cell_of_row w18 p 2 _ _ (0, 0) hk]; rfl
    have z3 : w18.cell? ⟨p, 3, none⟩ = some (.int .i64 (1 + x3)) := by rw [cell_of_row w18 p 3 _ _ (0, 0) hk]; rfl
    have z4 : w18.cell? ⟨p, 4, none⟩ = some (.int .i64 x4) := by rw [cell_of_row w18 p 4 _ _ (0, 0) hk]; rfl
    have z5 : w18.cell? ⟨p, 5, none⟩ = some (.int .i64 (1 + x5)) := by rw [cell_of_row w18 p 5 _ _ (0, 0) hk]; rfl
    have z6 : w18.cell? ⟨p, 6, none⟩ = some (.int .i64 x6) := by rw [cell_of_row w18 p 6 _ _ (0, 0) hk]; rfl
    have HFD : Aside0 (FS w w18.drew S p t A c L 54 #[.int .i64 x0, .bool (x1 == 1), .int .i64 0, .int .i64 (1 + x3), .int .i64 x4, .int .i64 (1 + x5), .int .i64 x6]) := ⟨HF9.out.below (below_drew (Below.refl _ _)) HPW.out⟩
    have HLD : Aside0 (∀ W : World, W.heap[p]? = some (.cells #[.int .i64 x0, .bool (x1 == 1), .int .i64 0, .int .i64 (1 + x3), .int .i64 x4, .int .i64 (1 + x5), .int .i64 x6] 23 (0, 0)) → W.cell? ⟨p, 0, none⟩ = some (.int .i64 x0) ∧ W.cell? ⟨p, 1, none⟩ = some (.bool (x1 == 1)) ∧ W.cell? ⟨p, 2, none⟩ = some (.int .i64 0) ∧ W.cell? ⟨p, 3, none⟩ = some (.int .i64 (1 + x3)) ∧ W.cell? ⟨p, 4, none⟩ = some (.int .i64 x4) ∧ W.cell? ⟨p, 5, none⟩ = some (.int .i64 (1 + x5)) ∧ W.cell? ⟨p, 6, none⟩ = some (.int .i64 x6)) := ⟨fun W hW => by refine ⟨?_, ?_, ?_, ?_, ?_, ?_, ?_⟩ <;> (rw [cell_of_row W _ _ _ _ _ hW]; rfl)⟩
    clear hk z0 z1 z2 z3 z4 z5 z6
    refine wp_region_held_drew (S := fun w' => w'.heap[p]? = some (.cells #[.int .i64 x0, .bool (x1 == 1), .int .i64 0, .int .i64 (1 + x3), .int .i64 x4, .int .i64 (1 + x5), .int .i64 x6] 23 (0, 0))) (by kernel_rfl) HFD.out.hd (fun hHeld => ?_)
    refine wpAnyH_take (i := 0) (v := ?_) rfl (by kernel_rfl) (by kernel_rfl) (by kernel_rfl) (fun _ _ _ h => h) (Or.inl ⟨by rfl, ?_⟩) (by assumption) ?_
    rotate_left
    · (intro w hSw; (try dsimp only at hSw); obtain ⟨z0, z1, z2, z3, z4, z5, z6⟩ := HLD.out w hSw; clear hSw; go_simp; (try with_reducible rfl))
    (try simp only [Act.put, List.setIfInBounds_toArray, List.set_cons_zero, List.set_cons_succ])
    refine wpAnyH_take (i := 2) (v := ?_) rfl (by kernel_rfl) (by kernel_rfl) (by kernel_rfl) (fun _ _ _ h => h) (Or.inl ⟨by rfl, ?_⟩) (by assumption) ?_
    rotate_left
    · (intro w hSw; (try dsimp only at hSw); obtain ⟨z0, z1, z2, z3, z4, z5, z6⟩ := HLD.out w hSw; clear hSw; go_simp; (try with_reducible rfl))
    (try simp only [Act.put, List.setIfInBounds_toArray, List.set_cons_zero, List.set_cons_succ])
    refine wpAnyH_take (i := 1) (v := ?_) rfl (by kernel_rfl) (by kernel_rfl) (by kernel_rfl) (fun _ _ _ h => h) (Or.inl ⟨by rfl, ?_⟩) (by assumption) ?_
    rotate_left
    · (intro w hSw; (try dsimp only at hSw); obtain ⟨z0, z1, z2, z3, z4, z5, z6⟩ := HLD.out w hSw; clear hSw; go_simp; (try with_reducible rfl))
    (try simp only [Act.put, List.setIfInBounds_toArray, List.set_cons_zero, List.set_cons_succ])
    refine wpAnyH_ready (rs := [3]) (by kernel_rfl) (by simp) ?_
    refine AllReadyH.cons rfl (fun K hK => ?_) AllReadyH.nil
    go_simp
    refine (HFD.out.get 2 H01.out (by rw [HL.out]; omega) (by rw [HL.out]; omega) (by omega) HPW.out xl (by rw [HV.out]; exact EL.out)).mono ?_
    rintro e v10 ⟨rfl, hf⟩
    have HFE := Aside0.mk hf
    clear hf
    (try go_simp)
    refine hK.out _ _ ?_ (fun hHeld => ?_)
    · exact HFE.out.hd
    clear hK K
    (try simp only [Act.put, List.setIfInBounds_toArray, List.set_cons_zero, List.set_cons_succ])
    have HSR : Aside0 ((v10.setRow p #[.int .i64 x0, .bool (x1 == 1), .int .i64 0, .int .i64 (1 + x3), .int .i64 x4, .int .i64 (1 + x5), .int .i64 x6]).heap[p]? = some (.cells #[.int .i64 x0, .bool (x1 == 1), .int .i64 0, .int .i64 (1 + x3), .int .i64 x4, .int .i64 (1 + x5), .int .i64 x6] 23 (0, 0))) := ⟨setRow_heap _ _ _ _ _ _ HFE.out.hd⟩
    refine wpAnyH_ready (rs := [4]) (by kernel_rfl) (by simp) ?_
    refine AllReadyH.cons rfl (fun K hK => ?_) AllReadyH.nil
    refine step_store_row (by rfl) _ _ _ (by rfl) p #[.int .i64 x0, .bool (x1 == 1), .int .i64 0, .int .i64 (1 + x3), .int .i64 x4, .int .i64 (1 + x5), .int .i64 x6] (by rfl) (by rfl) _ _ HFE.out.hd (by kernel_rfl) rfl (by kernel_rfl) ?_
    (try go_simp)
    refine hK.out _ _ ?_ (fun hHeld => ?_)
    · exact HSR.out
    clear hK K
    (try simp only [Act.put, List.setIfInBounds_toArray, List.set_cons_zero, List.set_cons_succ])
    refine wpAnyH_ready (rs := [5]) (by kernel_rfl) (by simp) ?_
    refine AllReadyH.cons rfl (fun K hK => ?_) AllReadyH.nil
    go_simp
    refine hK.out _ _ ?_ (fun hHeld => ?_)
    · exact HSR.out
    clear hK K
    (try simp only [Act.put, List.setIfInBounds_toArray, List.set_cons_zero, List.set_cons_succ])
    refine wpAnyH_ready (rs := [6]) (by kernel_rfl) (by simp) ?_
    refine AllReadyH.cons rfl (fun K hK => ?_) AllReadyH.nil
    go_simp
    refine hK.out _ _ ?_ (fun hHeld => ?_)
    · exact HSR.out
    clear hK K
    (try simp only [Act.put, List.setIfInBounds_toArray, List.set_cons_zero, List.set_cons_succ])
    refine wpAnyH_done (by kernel_rfl) ?_ _
    (try simp only [Exit.then])
    go_wp2_with fail
    have hbf : Below w.heap.size w (v10.setRow p #[.int .i64 x0, .bool (x1 == 1), .int .i64 0, .int .i64 (1 + x3), .int .i64 x4, .int .i64 (1 + x5), .int .i64 x6]) := (by rw [← HP.out]; exact HFE.out.low.trans ((fr_setRow' _ _ _).to_below (Nat.le_trans HPW.out HFE.out.low.size) (fun k hk => by omega)))
    refine bodyPost_ret (results_ctt rfl _ _ p _ _ _ _ rfl HSR.out Tryd.underlying23 rfl (by kernel_rfl)) rfl ?_
    rw [EM.out, EL.out, HHD.out]
    have hr0 : rt = 0 := by rw [HRT.out, List.getD_eq_getElem?_getD, List.getElem?_eq_none (show rates.length ≤ x2.toNat by show 9 ≤ x2.toNat; omega)]; rfl
    rw [hr0]
    refine ⟨?_, hbf⟩
    rw [Int.add_comm x3 1, Int.add_comm x5 1]
    rfl
end Go.Proofs.YtnaklnehichhpaaDoor.P
