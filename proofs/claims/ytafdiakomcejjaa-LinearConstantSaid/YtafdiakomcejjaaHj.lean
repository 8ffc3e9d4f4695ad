/- The contract of linear.reflector. -/
import Derived.Test.YtafdiakomcejjaaHj0
import Derived.Deep.DeepCutAuto
import Derived.Test.YtafdiakomcejjaaRgn
namespace Go.Proofs.Ytafdiakomcejjaa.P
open Go.RowKit Go.Shelf Go.Proofs.YtafdiakomcejjaaW.PrintWords Go.Proofs.YtafdiakomcejjaaW.PrintLast Go.Proofs.YtafdiakomcejjaaW.PrintMore
set_option linter.unusedVariables false
set_option linter.unusedSimpArgs false
attribute [local go_sem ↓] Go.wp_at_zero Go.wp_at_succ

/-- The two boxes of the closure, each with its row. -/
def Two (w W : World) (bx b' : Nat) (X Y : Value) (xs ys : List Int) : Prop :=
  W.heap[bx]? = some (.cells #[X] 22 (0, 0)) ∧ W.heap[b']? = some (.cells #[Y] 22 (0, 0)) ∧ Kd.R (Kd.int .i64) 3 W w.heap.size (fun _ => True) X xs ∧ Kd.R (Kd.int .i64) 3 W w.heap.size (fun _ => True) Y ys ∧ bx ≠ b' ∧ w.heap.size ≤ bx ∧ w.heap.size ≤ b' ∧ Below w.heap.size w W
theorem Two.symm {w W : World} {bx b' : Nat} {X Y : Value} {xs ys : List Int} (h : Two w W bx b' X Y xs ys) : Two w W b' bx Y X ys xs :=
  ⟨h.2.1, h.1, h.2.2.2.1, h.2.2.1, h.2.2.2.2.1.symm, h.2.2.2.2.2.2.1, h.2.2.2.2.2.1, h.2.2.2.2.2.2.2⟩
theorem blk_alloc {W : World} {k : Nat} {q : Obj} (h : W.heap[k]? = some q) (o : Obj) : (W.alloc o).heap[k]? = some q := by
  rw [Below.heap_alloc _ _ _ (lt_of_block h)]; exact h
theorem R_box {W : World} {base b : Nat} {v u u' : Value} {l : List Int} (h : Kd.R (Kd.int .i64) 3 W base (fun _ => True) v l) (hb : W.heap[b]? = some (.cells #[u'] 22 (0, 0))) : Kd.R (Kd.int .i64) 3 (W.setCell ⟨b, 0, none⟩ u) base (fun _ => True) v l :=
  Kd.R_set h hb (by simp [Kd.int, Kd.scalar]) 0 u
theorem cut_from_any (ad : Addr) (c n : Nat) (AD : Option Addr) (h : (if c = 1 then some ad else (some ad).map (·.add 1)) = AD) : ∀ W : World, (Instr.slice 22 (.slice (some ad) (n + 1) c) (some (.int .i64 1)) none none).run Try.prog W = .ok (.slice AD n (c - 1)) W := by
  intro W
  subst h
  have := cut_from (P := Try.prog) 22 3 .i64 Try.underlying22 (i := _) rfl 1 rfl (some ad) (n + 1) c 1 (by omega) (by omega) W
  simpa using this

/-! What holds while the region of linear.reflector runs: by which operations are done (2, 8: the two calls; 9, 10: the two boxes; 11, 12: the two stores). -/
def Row (w : World) (base n : Nat) (v : Value) (l : List Int) : Prop := ∃ A k, v = .slice A n k ∧ Kd.R (Kd.int .i64) 3 w base (fun _ => True) (.slice A n k) l
def Box (w : World) (base : Nat) (p v : Value) (st : Bool) : Prop := ∃ b x, p = .pointer (some ⟨b, 0, none⟩) ∧ base ≤ b ∧ w.heap[b]? = some (.cells #[x] 22 (0, 0)) ∧ (st = true → x = v) ∧ x.oneCell' = true
structure RI (w0 : World) (n : Nat) (g t : List Int) (B : Nat → Bool) (p3 p4 v7 v13 : Value) (w : World) : Prop where
  r7 : B 2 = true → Row w w0.heap.size n v7 g
  r13 : B 8 = true → Row w w0.heap.size n v13 t
  b3 : B 9 = true → Box w w0.heap.size p3 v7 (B 11)
  b4 : B 10 = true → Box w w0.heap.size p4 v13 (B 12)
  ne : B 9 = true → B 10 = true → p3 ≠ p4
  o11 : B 11 = true → B 2 = true ∧ B 9 = true
  o12 : B 12 = true → B 8 = true ∧ B 10 = true
  below : Below w0.heap.size w0 w

def upd (B : Nat → Bool) (i : Nat) : Nat → Bool := fun k => if k = i then true else B k
theorem upd_listed {listed : Array Bool} {i : Nat} (h : i < listed.size) : (fun k => (listed.setIfInBounds i true).getD k false) = upd (fun k => listed.getD k false) i := by
  funext k
  unfold upd
  by_cases hk : k = i
  · subst hk; simp [Array.getD_eq_getD_getElem?, Array.getElem?_setIfInBounds, h]
  · simp [Array.getD_eq_getD_getElem?, Array.getElem?_setIfInBounds, hk, Ne.symm hk]
theorem getD_set_mono {L : Array Bool} {i k : Nat} (h : L.getD k false = true) : (L.setIfInBounds i true).getD k false = true := by
  rw [Array.getD_eq_getD_getElem?] at h ⊢
  rw [Array.getElem?_setIfInBounds]
  split
  · split
    · rfl
    · rename_i h1 h2
      subst h1
      rw [Array.getElem?_eq_none (by omega)] at h
      cases h
  · exact h
theorem getD_no {L : Array Bool} {k : Nat} (h : L.getD k true = false) : L.getD k false = false := by
  rw [Array.getD_eq_getD_getElem?] at h ⊢
  cases e : L[k]? with
  | none => rw [e] at h; cases h
  | some b => rw [e] at h; exact h
theorem getD_in {L : Array Bool} {k : Nat} (hk : k < L.size) (h : L.getD k true = true) : L.getD k false = true := by
  rw [Array.getD_eq_getD_getElem?, Array.getElem?_eq_getElem hk] at h ⊢
  exact h
theorem getD_yes {L : Array Bool} {k : Nat} (h : L.getD k false = true) : L.getD k true = true := by
  rw [Array.getD_eq_getD_getElem?] at h ⊢
  cases e : L[k]? with
  | none => rfl
  | some b => rw [e] at h; exact h
/-- The operations that are done first. -/
def Quiet (L : Array Bool) : Prop := L.getD 0 false = true ∧ L.getD 1 false = true ∧ L.getD 3 false = true ∧ L.getD 4 false = true ∧ L.getD 5 false = true ∧ L.getD 6 false = true ∧ L.getD 7 false = true
theorem Quiet.set {L : Array Bool} (h : Quiet L) (i : Nat) : Quiet (L.setIfInBounds i true) :=
  ⟨getD_set_mono h.1, getD_set_mono h.2.1, getD_set_mono h.2.2.1, getD_set_mono h.2.2.2.1, getD_set_mono h.2.2.2.2.1, getD_set_mono h.2.2.2.2.2.1, getD_set_mono h.2.2.2.2.2.2⟩
theorem Quiet.other {L : Array Bool} (h : Quiet L) {i : Nat} (hi : i < 13) (hf : L.getD i true = false) : i = 2 ∨ i = 8 ∨ i = 9 ∨ i = 10 ∨ i = 11 ∨ i = 12 := by
  obtain ⟨h0, h1, h3, h4, h5, h6, h7⟩ := h
  have n : ∀ k, L.getD k false = true → i ≠ k := by
    rintro k hk rfl
    rw [getD_yes hk] at hf
    cases hf
  have := n 0 h0
  have := n 1 h1
  have := n 3 h3
  have := n 4 h4
  have := n 5 h5
  have := n 6 h6
  have := n 7 h7
  omega
theorem Row.keep {w w1 : World} {base n : Nat} {v : Value} {l : List Int} (h : Row w base n v l) (hb : Below w.heap.size w w1) : Row w1 base n v l := by
  obtain ⟨A, k, e, hR⟩ := h
  exact ⟨A, k, e, Kd.R_below hR hb⟩
theorem Box.keep {w w1 : World} {base : Nat} {p v : Value} {st : Bool} (h : Box w base p v st) (hb : Below w.heap.size w w1) : Box w1 base p v st := by
  obtain ⟨b, x, e, h0, h1, h2⟩ := h
  exact ⟨b, x, e, h0, (hb.block b (lt_of_block h1)).trans h1, h2⟩
section
variable {w0 w w1 : World} {n : Nat} {g t : List Int} {B : Nat → Bool} {p3 p4 v7 v13 : Value}
theorem RI.init (h2 : B 2 = false) (h8 : B 8 = false) (h9 : B 9 = false) (h10 : B 10 = false) (h11 : B 11 = false) (h12 : B 12 = false) : RI w n g t B p3 p4 v7 v13 w.drew :=
  ⟨(fun q => by rw [h2] at q; cases q), (fun q => by rw [h8] at q; cases q), (fun q => by rw [h9] at q; cases q), (fun q => by rw [h10] at q; cases q), (fun q => by rw [h9] at q; cases q), (fun q => by rw [h11] at q; cases q), (fun q => by rw [h12] at q; cases q), below_drew (Below.refl _ _)⟩
theorem RI.call1 (h : RI w0 n g t B p3 p4 v7 v13 w) (hf : B 2 = false) (hb : Below w.heap.size w w1) (v : Value) (hr : Row w1 w0.heap.size n v g) : RI w0 n g t (upd B 2) p3 p4 v v13 w1 := by
  have n11 : B 11 = false := by cases e : B 11 with
    | false => rfl
    | true => have := (h.o11 e).1; rw [hf] at this; cases this
  refine ⟨fun _ => hr, fun q => (h.r13 (by simpa [upd] using q)).keep hb, fun q => ?_, fun q => (h.b4 (by simpa [upd] using q)).keep hb, fun q q' => h.ne (by simpa [upd] using q) (by simpa [upd] using q'), fun q => by simp [upd, n11] at q, fun q => by simpa [upd] using h.o12 (by simpa [upd] using q), below_step h.below hb⟩
  have hq := (h.b3 (by simpa [upd] using q)).keep hb
  rw [n11] at hq
  obtain ⟨b, x, e, h0, h1, _, h3⟩ := hq
  exact ⟨b, x, e, h0, h1, fun q => by simp [upd, n11] at q, h3⟩
theorem RI.call2 (h : RI w0 n g t B p3 p4 v7 v13 w) (hf : B 8 = false) (hb : Below w.heap.size w w1) (v : Value) (hr : Row w1 w0.heap.size n v t) : RI w0 n g t (upd B 8) p3 p4 v7 v w1 := by
  have n12 : B 12 = false := by cases e : B 12 with
    | false => rfl
    | true => have := (h.o12 e).1; rw [hf] at this; cases this
  refine ⟨fun q => (h.r7 (by simpa [upd] using q)).keep hb, fun _ => hr, fun q => (h.b3 (by simpa [upd] using q)).keep hb, fun q => ?_, fun q q' => h.ne (by simpa [upd] using q) (by simpa [upd] using q'), fun q => by simpa [upd] using h.o11 (by simpa [upd] using q), fun q => by simp [upd, n12] at q, below_step h.below hb⟩
  have hq := (h.b4 (by simpa [upd] using q)).keep hb
  rw [n12] at hq
  obtain ⟨b, x, e, h0, h1, _, h3⟩ := hq
  exact ⟨b, x, e, h0, h1, fun q => by simp [upd, n12] at q, h3⟩
abbrev nilBox : Obj := .cells #[.slice none 0 0] 22 (0, 0)
theorem box_new (w : World) (base : Nat) (hb : base ≤ w.heap.size) (v : Value) : Box (w.alloc nilBox) base (.pointer (some ⟨w.heap.size, 0, none⟩)) v false :=
  ⟨_, _, rfl, hb, blk_new w nilBox, (fun q => by cases q), rfl⟩
theorem ptr_ne {a b : Nat} (h : a ≠ b) : Value.pointer (some ⟨a, 0, none⟩) ≠ Value.pointer (some ⟨b, 0, none⟩) := by
  intro e
  injection e with e
  injection e with e
  injection e with e
  exact h e
theorem RI.box1 (h : RI w0 n g t B p3 p4 v7 v13 w) (hf : B 9 = false) : RI w0 n g t (upd B 9) (.pointer (some ⟨w.heap.size, 0, none⟩)) p4 v7 v13 (w.alloc nilBox) := by
  have hb : Below w.heap.size w (w.alloc nilBox) := below_alloc (Below.refl _ _) _
  have n11 : B 11 = false := by cases e : B 11 with
    | false => rfl
    | true => have := (h.o11 e).2; rw [hf] at this; cases this
  refine ⟨fun q => (h.r7 (by simpa [upd] using q)).keep hb, fun q => (h.r13 (by simpa [upd] using q)).keep hb, fun _ => ?_, fun q => (h.b4 (by simpa [upd] using q)).keep hb, fun _ q' => ?_, fun q => by simp [upd, n11] at q, fun q => by simpa [upd] using h.o12 (by simpa [upd] using q), below_step h.below hb⟩
  · have := box_new w w0.heap.size h.below.size v7
    simpa [upd, n11] using this
  · obtain ⟨b, x, e, h0, h1, _⟩ := h.b4 (by simpa [upd] using q')
    have := lt_of_block h1
    rw [e]
    exact ptr_ne (by omega)
theorem RI.box2 (h : RI w0 n g t B p3 p4 v7 v13 w) (hf : B 10 = false) : RI w0 n g t (upd B 10) p3 (.pointer (some ⟨w.heap.size, 0, none⟩)) v7 v13 (w.alloc nilBox) := by
  have hb : Below w.heap.size w (w.alloc nilBox) := below_alloc (Below.refl _ _) _
  have n12 : B 12 = false := by cases e : B 12 with
    | false => rfl
    | true => have := (h.o12 e).2; rw [hf] at this; cases this
  refine ⟨fun q => (h.r7 (by simpa [upd] using q)).keep hb, fun q => (h.r13 (by simpa [upd] using q)).keep hb, fun q => (h.b3 (by simpa [upd] using q)).keep hb, fun _ => ?_, fun q' _ => ?_, fun q => by simpa [upd] using h.o11 (by simpa [upd] using q), fun q => by simp [upd, n12] at q, below_step h.below hb⟩
  · have := box_new w w0.heap.size h.below.size v13
    simpa [upd, n12] using this
  · obtain ⟨b, x, e, h0, h1, _⟩ := h.b3 (by simpa [upd] using q')
    have := lt_of_block h1
    rw [e]
    exact ptr_ne (by omega)
theorem Row.box {w : World} {base n b : Nat} {v u x : Value} {l : List Int} (h : Row w base n v l) (hb : w.heap[b]? = some (.cells #[x] 22 (0, 0))) : Row (w.setCell ⟨b, 0, none⟩ u) base n v l := by
  obtain ⟨A, k, e, hR⟩ := h
  exact ⟨A, k, e, R_box hR hb⟩
theorem Box.other {w : World} {base b : Nat} {p v u : Value} {st : Bool} (h : Box w base p v st) (hp : Value.pointer (some ⟨b, 0, none⟩) ≠ p) : Box (w.setCell ⟨b, 0, none⟩ u) base p v st := by
  obtain ⟨b', x, e, h0, h1, h2⟩ := h
  exact ⟨b', x, e, h0, (Below.heap_setCell _ _ _ _ (by rintro rfl; exact hp e.symm)).trans h1, h2⟩
theorem RI.store1 {b : Nat} {x : Value} (h : RI w0 n g t B (.pointer (some ⟨b, 0, none⟩)) p4 v7 v13 w) (h9 : B 9 = true) (h2 : B 2 = true) (h0 : w0.heap.size ≤ b) (hx : w.heap[b]? = some (.cells #[x] 22 (0, 0))) (hv : v7.oneCell' = true) :
    RI w0 n g t (upd B 11) (.pointer (some ⟨b, 0, none⟩)) p4 v7 v13 (w.setCell ⟨b, 0, none⟩ v7) :=
  ⟨fun _ => (h.r7 h2).box hx, fun q => (h.r13 (by simpa [upd] using q)).box hx, fun _ => ⟨b, v7, rfl, h0, one_setCell hx, fun _ => rfl, hv⟩, fun q => (h.b4 (by simpa [upd] using q)).other (h.ne h9 (by simpa [upd] using q)),
    fun _ q' => h.ne h9 (by simpa [upd] using q'), fun _ => ⟨by simpa [upd] using h2, by simpa [upd] using h9⟩, fun q => by simpa [upd] using h.o12 (by simpa [upd] using q), h.below.setCell h0 _⟩
theorem RI.store2 {b : Nat} {x : Value} (h : RI w0 n g t B p3 (.pointer (some ⟨b, 0, none⟩)) v7 v13 w) (h9 : B 10 = true) (h2 : B 8 = true) (h0 : w0.heap.size ≤ b) (hx : w.heap[b]? = some (.cells #[x] 22 (0, 0))) (hv : v13.oneCell' = true) :
    RI w0 n g t (upd B 12) p3 (.pointer (some ⟨b, 0, none⟩)) v7 v13 (w.setCell ⟨b, 0, none⟩ v13) :=
  ⟨fun q => (h.r7 (by simpa [upd] using q)).box hx, fun _ => (h.r13 h2).box hx, fun q => (h.b3 (by simpa [upd] using q)).other (fun e => h.ne (by simpa [upd] using q) h9 e.symm), fun _ => ⟨b, v13, rfl, h0, one_setCell hx, fun _ => rfl, hv⟩,
    fun q _ => h.ne (by simpa [upd] using q) h9, fun q => by simpa [upd] using h.o11 (by simpa [upd] using q), fun _ => ⟨by simpa [upd] using h2, by simpa [upd] using h9⟩, h.below.setCell h0 _⟩
theorem RI.ends (h : RI w0 n g t B p3 p4 v7 v13 w) (hB : ∀ k, k < 13 → B k = true) : ∃ bu bv U V, p3 = .pointer (some ⟨bu, 0, none⟩) ∧ p4 = .pointer (some ⟨bv, 0, none⟩) ∧ Two w0 w bu bv U V g t := by
  obtain ⟨A7, k7, e7, R7⟩ := h.r7 (hB 2 (by omega))
  obtain ⟨A13, k13, e13, R13⟩ := h.r13 (hB 8 (by omega))
  obtain ⟨bu, x, e3, h3, hx3, hs3, _⟩ := h.b3 (hB 9 (by omega))
  obtain ⟨bv, y, e4, h4, hx4, hs4, _⟩ := h.b4 (hB 10 (by omega))
  have hne := h.ne (hB 9 (by omega)) (hB 10 (by omega))
  obtain rfl := hs3 (hB 11 (by omega))
  obtain rfl := hs4 (hB 12 (by omega))
  subst e7
  subst e13
  refine ⟨bu, bv, _, _, e3, e4, hx3, hx4, R7, R13, ?_, h3, h4, h.below⟩
  rintro rfl
  exact hne (by rw [e3, e4])
end

set_option maxHeartbeats 2000000 in
set_option maxRecDepth 100000 in
theorem reflector_any (A : Option Addr) (c : Nat) (x : Int) (g : List Int) (w : World) (hC : Kd.C (Kd.int .i64) w A (x :: g).length (x :: g)) (hc : (x :: g).length ≤ c) (hl : g.length ≤ 1000) :
    Calls Try.prog 29 #[.slice A (g.length + 1) c] w fun e w' => ∃ bu bv, e = .returned (.func (.func 43) #[] #[.pointer (some ⟨bv, 0, none⟩), .pointer (some ⟨bu, 0, none⟩)]) ∧ Refl w' w.heap.size bu bv g ((x :: g).take g.length) ∧ w.heap.size ≤ bu ∧ w.heap.size ≤ bv ∧ Below w.heap.size w w' := by
  have h1 : ∃ AD : Option Addr, (if c = 1 then A else A.map (·.add 1)) = AD := ⟨_, rfl⟩
  obtain ⟨AD, hAD⟩ := h1
  have hg : Kd.C (Kd.int .i64) w AD g.length g := by
    have := Kd.C_drop (m := 1) hC (by simp) hc
    simpa [hAD, Kd.int, Kd.scalar] using this
  have ht : Kd.C (Kd.int .i64) w A ((x :: g).take g.length).length ((x :: g).take g.length) := Kd.C_take hC (by simp)
  have htl : ((x :: g).take g.length).length = g.length := by simp
  have c1 : ∀ W, Below w.heap.size w W → Calls Try.prog 37 #[.slice AD g.length (c - 1)] W fun e w' => ∃ v, e = .returned v ∧ Kd.R (Kd.int .i64) 3 w' W.heap.size (fun _ => True) v g ∧ Below W.heap.size W w' :=
    fun W hb => slices_Clone_int_int.calls AD (c - 1) g g W (Kd.C_below hg hb) (by simp at hc; omega) (by simp [slices_Clone_int_int.f]; omega)
  have c2 : ∀ W, Below w.heap.size w W → Calls Try.prog 37 #[.slice A g.length c] W fun e w' => ∃ v, e = .returned v ∧ Kd.R (Kd.int .i64) 3 w' W.heap.size (fun _ => True) v ((x :: g).take g.length) ∧ Below W.heap.size W w' := by
    intro W hb
    have := slices_Clone_int_int.calls A c ((x :: g).take g.length) ((x :: g).take g.length) W (Kd.C_below ht hb) (by simp at hc; omega) (by simp [slices_Clone_int_int.f]; omega)
    rwa [htl] at this
  obtain ⟨ad, e, _⟩ := Kd.at_int hC 0 (by omega) (by simp)
  cases e
  have hsl := cut_from_any ad c g.length AD hAD
  have C2 := Aside0.mk c2
  have i1 : (1 : Int) ≤ (g.length : Int) + 1 := by omega
  have i2 : ¬ ((g.length : Int) + 1 < 1) := by omega
  have i3 : (0 : Int) ≤ (g.length : Int) := by omega
  simp only [List.length_cons] at hc
  have i4 : (g.length : Int) + 1 ≤ (c : Int) := by omega
  have i5 : (g.length : Int) ≤ (c : Int) := by omega
  have B0 := Aside0.mk (Below.refl w.heap.size w)
  clear hC hg ht c2
  have w1' : IntKind.i64.wrap ((g.length : Int) + 1 - 1) = (g.length : Int) := by rw [IntWalk.i64_in _ (by omega)]; omega
  have w2' : IntKind.i64.wrap (g.length : Int) = (g.length : Int) := IntWalk.i64_in _ (by omega)
  have C1 := Aside0.mk c1
  clear c1 hAD
  go_enter Try.func29, Try.ntmps29
  go_upto_region 1 with fail
  go_cut [3, 4] (fun s3 s4 wx => ∃ bu bv U V, s3 = .pointer (some ⟨bu, 0, none⟩) ∧ s4 = .pointer (some ⟨bv, 0, none⟩) ∧ Aside0 (Two w wx bu bv U V g ((x :: g).take g.length)))
  case first =>
    refine wp_region_any (by kernel_rfl) ?_
    change wpAny _ _ _ _ _ _ _ (World.drew _)
    refine wpAny_take (i := 0) (v := ?_) rfl (by kernel_rfl) (by kernel_rfl) (by kernel_rfl) (fun _ _ _ h => h) (Or.inl ⟨by rfl, ?_⟩) ?_
    rotate_left
    · (intro W; go_simp; try with_reducible rfl)
    refine wpAny_take (i := 1) (v := ?_) rfl (by kernel_rfl) (by kernel_rfl) (by kernel_rfl) (fun _ _ _ h => h) (Or.inl ⟨by rfl, ?_⟩) ?_
    rotate_left
    · (intro W; go_simp; try with_reducible rfl)
    refine wpAny_take (i := 3) (v := ?_) rfl (by kernel_rfl) (by kernel_rfl) (by kernel_rfl) (fun _ _ _ h => h) (Or.inl ⟨by rfl, ?_⟩) ?_
    rotate_left
    · (intro W; go_simp; try with_reducible rfl)
    refine wpAny_take (i := 4) (v := ?_) rfl (by kernel_rfl) (by kernel_rfl) (by kernel_rfl) (fun _ _ _ h => h) (Or.inl ⟨by rfl, ?_⟩) ?_
    rotate_left
    · (intro W; go_simp; try with_reducible rfl)
    refine wpAny_take (i := 5) (v := ?_) rfl (by kernel_rfl) (by kernel_rfl) (by kernel_rfl) (fun _ _ _ h => h) (Or.inl ⟨by rfl, ?_⟩) ?_
    rotate_left
    · (intro W; go_simp; try with_reducible rfl)
    refine wpAny_take (i := 6) (v := ?_) rfl (by kernel_rfl) (by kernel_rfl) (by kernel_rfl) (fun _ _ _ h => h) (Or.inl ⟨by rfl, ?_⟩) ?_
    rotate_left
    · (intro W; go_simp; try with_reducible rfl)
    refine wpAny_take (i := 7) (v := ?_) rfl (by kernel_rfl) (by kernel_rfl) (by kernel_rfl) (fun _ _ _ h => h) (Or.inl ⟨by rfl, ?_⟩) ?_
    rotate_left
    · (intro W; go_simp; try with_reducible rfl)
    refine wpAny_of_inv (fun L a w' => Quiet L ∧ ∃ p3 p4 v7 v13 : Value, a = { tmps := #[.slice (some ad) (g.length + 1) c, undef, .nilFunc, p3, p4, .slice (some ad) (g.length + 1) c, .slice AD g.length (c - 1), v7, .slice (some ad) (g.length + 1) c, .slice (some ad) (g.length + 1) c, .int .i64 ((g.length : Int) + 1), .int .i64 (g.length : Int), .slice (some ad) g.length c, v13, undef], defers := [] } ∧ RI w g.length g ((x :: g).take g.length) (fun k => L.getD k false) p3 p4 v7 v13 w') (dagB_spec (by kernel_rfl)) ?hstep ?hend _ _ _ _ (by kernel_rfl) (Nat.le_of_ble_eq_true (by kernel_rfl)) ?hinit
    case hinit =>
      refine ⟨⟨by kernel_rfl, by kernel_rfl, by kernel_rfl, by kernel_rfl, by kernel_rfl, by kernel_rfl, by kernel_rfl⟩, undef, undef, undef, undef, rfl, ?_⟩
      exact RI.init (by kernel_rfl) (by kernel_rfl) (by kernel_rfl) (by kernel_rfl) (by kernel_rfl) (by kernel_rfl)
    case hend =>
      rintro L a W hs hall ⟨_, p3, p4, v7, v13, rfl, hRI⟩
      obtain ⟨bu, bv, U, V, rfl, rfl, hT⟩ := hRI.ends (fun k hk => getD_in (by rw [hs]; exact hk) (hall k hk))
      go_wp2_with fail
      go_meet
      exact ⟨bu, bv, U, V, rfl, rfl, ⟨hT⟩⟩
    case hstep =>
      rintro i o L a W ho hs hf he ⟨hQ, p3, p4, v7, v13, rfl, hRI⟩
      have hi : i < 13 := (Array.getElem?_eq_some_iff.1 ho).1
      have hfl := getD_no hf
      rcases hQ.other hi hf with rfl | rfl | rfl | rfl | rfl | rfl
      · obtain rfl := Option.some.inj ho
        have hb := hRI.below
        refine wpOp_step rfl (fun K hK => ?_)
        go_simp
        refine (C1.out _ hb).mono ?_
        rintro e w1 ⟨v1, rfl, ho1, hb1⟩
        obtain ⟨A1, k1, hv1, _, _⟩ := Kd.R_reads ho1
        have ho2 : Kd.R (Kd.int .i64) 3 w1 w.heap.size (fun _ => True) v1 _ := Kd.R_lower ho1 (below_size hb)
        cases hv1
        go_simp
        refine hK _ _ ⟨hQ.set 2, _, _, _, _, rfl, ?_⟩
        rw [upd_listed (by rw [hs]; decide)]
        exact hRI.call1 hfl hb1 _ ⟨A1, k1, rfl, ho2⟩
      · obtain rfl := Option.some.inj ho
        have hb := hRI.below
        refine wpOp_step rfl (fun K hK => ?_)
        go_simp
        refine (C2.out _ hb).mono ?_
        rintro e w1 ⟨v1, rfl, ho1, hb1⟩
        obtain ⟨A1, k1, hv1, _, _⟩ := Kd.R_reads ho1
        have ho2 : Kd.R (Kd.int .i64) 3 w1 w.heap.size (fun _ => True) v1 _ := Kd.R_lower ho1 (below_size hb)
        rw [htl] at hv1
        cases hv1
        go_simp
        refine hK _ _ ⟨hQ.set 8, _, _, _, _, rfl, ?_⟩
        rw [upd_listed (by rw [hs]; decide)]
        exact hRI.call2 hfl hb1 _ ⟨A1, k1, rfl, ho2⟩
      · obtain rfl := Option.some.inj ho
        refine wpOp_step rfl (fun K hK => ?_)
        go_simp
        refine hK _ _ ⟨hQ.set 9, _, _, _, _, rfl, ?_⟩
        rw [upd_listed (by rw [hs]; decide)]
        exact hRI.box1 hfl
      · obtain rfl := Option.some.inj ho
        refine wpOp_step rfl (fun K hK => ?_)
        go_simp
        refine hK _ _ ⟨hQ.set 10, _, _, _, _, rfl, ?_⟩
        rw [upd_listed (by rw [hs]; decide)]
        exact hRI.box2 hfl
      · obtain rfl := Option.some.inj ho
        have h9 : L.getD 9 false = true := he ⟨9, .data⟩ (by simp) (by rfl)
        have h2 : L.getD 2 false = true := he ⟨2, .data⟩ (by simp) (by rfl)
        obtain ⟨b, x, rfl, hb0, hx, _, hx1⟩ := hRI.b3 h9
        obtain ⟨A7, k7, rfl, R7⟩ := hRI.r7 h2
        have q1 := cell_of_one hx
        have q2 := free_of_one hx
        refine wpOp_step rfl (fun K hK => ?_)
        go_simp
        refine hK _ _ ⟨hQ.set 11, _, _, _, _, rfl, ?_⟩
        rw [upd_listed (by rw [hs]; decide)]
        exact hRI.store1 h9 h2 hb0 hx rfl
      · obtain rfl := Option.some.inj ho
        have h9 : L.getD 10 false = true := he ⟨10, .data⟩ (by simp) (by rfl)
        have h2 : L.getD 8 false = true := he ⟨8, .data⟩ (by simp) (by rfl)
        obtain ⟨b, x, rfl, hb0, hx, _, hx1⟩ := hRI.b4 h9
        obtain ⟨A7, k7, rfl, R7⟩ := hRI.r13 h2
        have q1 := cell_of_one hx
        have q2 := free_of_one hx
        refine wpOp_step rfl (fun K hK => ?_)
        go_simp
        refine hK _ _ ⟨hQ.set 12, _, _, _, _, rfl, ?_⟩
        rw [upd_listed (by rw [hs]; decide)]
        exact hRI.store2 h9 h2 hb0 hx rfl
  case rest =>
    obtain ⟨bu, bv, U, V, rfl, rfl, HT⟩ := hcut
    go_wp2
    go_ret
    exact ⟨bu, bv, rfl, ⟨U, V, HT.out.1, HT.out.2.1, HT.out.2.2.1, HT.out.2.2.2.1, HT.out.2.2.2.2.1⟩, HT.out.2.2.2.2.2.1, HT.out.2.2.2.2.2.2.1, HT.out.2.2.2.2.2.2.2⟩
end Go.Proofs.Ytafdiakomcejjaa.P
