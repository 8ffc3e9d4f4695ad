/- Plain: a tag out of a plain content; the reader's bits as bytes. The closures of tag.parsed; tag.refuse, tag.caught. The contract of tag.parsed. The contracts of tag.read and tag.Read. The contract of tag.Read. The values of the reference's Stuff, SameBytes and Strip. -/
import Derived.Recover
import Derived.Laws.EntriesVeiled
import Derived.Test.YthlmnnjbpikijaaDoorZTr15
import Derived.Test.YthlmnnjbpikijaaDoorZTr17
import Derived.Test.YthlmnnjbpikijaaDoorZTr13
import Derived.Test.YthlmnnjbpikijaaDoorZTr10
import Derived.Test.YthlmnnjbpikijaaDoorZTr16
import Derived.Test.YthlmnnjbpikijaaDoorZTr12
section
namespace Go.Proofs.YthlmnnjbpikijaaDoor.P
open Go.RowKit Go.Shelf Go.Proofs.YthlmnnjbpikijaaDoor.Bits Go.Proofs.YthlmnnjbpikijaaDoorW.PrintWords Go.Proofs.YthlmnnjbpikijaaDoorW.PrintLast Go.Proofs.YthlmnnjbpikijaaDoorW.PrintMore
set_option linter.unusedVariables false
set_option linter.unusedSimpArgs false
attribute [local go_sem ↓] Go.wp_at_zero Go.wp_at_succ
/-- The length that two bytes say. -/
def tl (B : List Int) : Nat := (B.getD 4 0 * 256 + B.getD 5 0).toNat
def pF : Nat → List Int → List S56 → Option (List S56 × List Int)
  | 0, B, acc => some (acc, B)
  | n + 1, B, acc => if B.length < 6 then none else if B.length < 6 + tl B then none else pF n (B.drop (6 + tl B)) (acc ++ [⟨strOfNums (B.take 4), strOfNums ((B.drop 6).take (tl B))⟩])
def fParse (B : List Int) : Option TG :=
  if B.length < 5 then none else match pF (B.getD 4 0).toNat (B.drop 5) [] with
    | none => none
    | some (fs, R) => if R.length = 0 ∧ okT ⟨B.getD 0 0 * 256 + B.getD 1 0, B.getD 2 0 * 256 + B.getD 3 0, fs⟩ = true then some ⟨B.getD 0 0 * 256 + B.getD 1 0, B.getD 2 0 * 256 + B.getD 3 0, fs⟩ else none
theorem bits_seg (B : List Int) (a n : Nat) (h : a + n ≤ B.length) : ((ofB B (8 * B.length)).drop (8 * a)).take (8 * n) = ofB ((B.drop a).take n) (8 * n) := by
  have e : B = B.take a ++ ((B.drop a).take n ++ B.drop (a + n)) := by
    rw [show B.drop (a + n) = (B.drop a).drop n by rw [List.drop_drop], List.take_append_drop, List.take_append_drop]
  have h1 : (B.take a).length = a := by rw [List.length_take]; omega
  have h2 : ((B.drop a).take n).length = n := by rw [List.length_take, List.length_drop]; omega
  have := ofB_cat (B.take a) ((B.drop a).take n ++ B.drop (a + n))
  rw [← e, ofB_cat, h1, h2] at this
  rw [this]
  have l1 : (ofB (B.take a) (8 * a)).length = 8 * a := ofB_length _ _
  have l2 : (ofB ((B.drop a).take n) (8 * n)).length = 8 * n := ofB_length _ _
  rw [List.drop_left' l1, List.take_left' l2]
theorem val_two {B : List Int} (h8 : is8 B) (a : Nat) (h : a + 2 ≤ B.length) : val (((ofB B (8 * B.length)).drop (8 * a)).take 16) = B.getD a 0 * 256 + B.getD (a + 1) 0 := by
  have e := bits_seg B a 2 h
  rw [show 8 * 2 = 16 from rfl] at e
  have h0 := getD8 h8 a
  have h1 := getD8 h8 (a + 1)
  have e2 : (B.drop a).take 2 = two (B.getD a 0 * 256 + B.getD (a + 1) 0) := by
    rw [drop_at B a (by omega), drop_at B (a + 1) (by omega)]
    unfold two
    simp only [List.take_succ_cons, List.take_zero]
    rw [show (B.getD a 0 * 256 + B.getD (a + 1) 0) / 256 % 256 = B.getD a 0 by omega, show (B.getD a 0 * 256 + B.getD (a + 1) 0) % 256 = B.getD (a + 1) 0 by omega]
  rw [e, e2, ofB_two, val_numb]
  simp only [Int.reducePow]
  omega
theorem val_one8 {B : List Int} (h8 : is8 B) (a : Nat) (h : a + 1 ≤ B.length) : val (((ofB B (8 * B.length)).drop (8 * a)).take 8) = B.getD a 0 := by
  have e := bits_seg B a 1 h
  rw [show 8 * 1 = 8 from rfl] at e
  have h0 := getD8 h8 a
  have e2 : (B.drop a).take 1 = [B.getD a 0] := by rw [drop_at B a (by omega)]; rfl
  rw [e, e2, ofB_byte1, val_numb]
  simp only [Int.reducePow]
  omega
theorem is8_seg {B : List Int} (h8 : is8 B) (a n : Nat) : is8 ((B.drop a).take n) := fun x hx => h8 x (List.mem_of_mem_drop (List.mem_of_mem_take hx))
theorem pk_seg {B : List Int} (h8 : is8 B) (a n : Nat) (h : a + n ≤ B.length) : pk (((ofB B (8 * B.length)).drop (8 * a)).take (8 * n)) = (B.drop a).take n := by
  rw [bits_seg B a n h]
  have := pk_ofB (is8_seg h8 a n)
  rwa [List.length_take, List.length_drop, Nat.min_eq_left (by omega)] at this
/-- The error with which something leaves. -/
abbrev errV (e : Int) : Value := .iface 28 (.int .i64 e)
abbrev gone (e : Int) : Ending := .panicked [{ v := errV e, recovered := false }]
theorem refuse_no (e : Int) (w : World) : Calls Tryd.prog 66 #[.bool false, .int .i64 e] w fun r w' => r = .returned (.tuple #[]) ∧ w' = w := by
  go_enter Tryd.func66, Tryd.ntmps66
  go_wp2_with fail
  go_end0
  exact ⟨rfl, rfl⟩
theorem refuse_yes (e : Int) (w : World) : Calls Tryd.prog 66 #[.bool true, .int .i64 e] w fun r w' => r = gone e ∧ w' = w := by
  go_enter Tryd.func66, Tryd.ntmps66
  go_wp2_with fail
  exact ⟨rfl, rfl, rfl⟩
set_option maxRecDepth 100000 in
theorem caught_idle (p : Addr) (w : World) : CallsD Tryd.prog 42 #[.pointer (some p)] .returning w fun r u' w' => r = .returned (.tuple #[]) ∧ u' = .returning ∧ w' = w := by
  refine callsD_of_wpS Tryd.func42 rfl fun c₀ cs hu => ?_
  apply wpS_seq
  apply wpS_region
  simp [wpOpsS, go_sem, recoverD, hu, Tryd.ntmps42, Exit.thenS]
  refine wpS_of_wp ?_
  go_wp2
  cases c₀
  simp_all [bodyPostS, results]
set_option maxHeartbeats 2000000 in
set_option maxRecDepth 100000 in
theorem caught_panic (p : Addr) (x e : Int) (older : List PanicEntry) (w : World) (hc : w.cell? p = some (.int .i64 x)) (hz : w.frozen? p = false) :
    CallsD Tryd.prog 42 #[.pointer (some p)] (.panicking ({ v := errV e, recovered := false } :: older)) w fun r u' w' => r = .returned (.tuple #[]) ∧ u' = .panicking ({ v := errV e, recovered := true } :: older) ∧ w' = w.setCell p (.int .i64 e) := by
  have hta : ∀ W : World, (Instr.typeAssert (errV e) 20 28 true).run Tryd.prog W = .ok (.tuple #[.int .i64 e, .bool true]) W := fun _ => by kernel_rfl
  refine callsD_of_wpS Tryd.func42 rfl fun c₀ cs hu => ?_
  apply wpS_seq
  apply wpS_region
  simp [wpOpsS, go_sem, recoverD, hu, Tryd.ntmps42, Exit.thenS]
  refine wpS_of_wp ?_
  go_wp2
  cases c₀
  simp_all [bodyPostS, results]
abbrev ptrBox (p : Nat) : Obj := .cells #[.pointer (some ⟨p, 0, none⟩)] 107 (0, 0)
/-- The reader of parsed, and the variable that has it. -/
structure PR (w0 w : World) (p b3 : Nat) (L : List Int) (a : Nat) : Prop where
  rd : ∃ S, Rd w S p L a
  box : w.heap[b3]? = some (ptrBox p)
  pge : w0.heap.size ≤ p
  bel : Below w0.heap.size w0 w
theorem PR.blk {w0 w : World} {p b3 : Nat} {L : List Int} {a : Nat} (h : PR w0 w p b3 L a) : ∃ cs, w.heap[p]? = some (.cells cs 123 (0, 0)) := by
  obtain ⟨S, hr⟩ := h.rd
  obtain ⟨v, B, hb, _⟩ := hr.blk
  exact ⟨_, hb⟩
theorem PR.ne {w0 w : World} {p b3 : Nat} {L : List Int} {a : Nat} (h : PR w0 w p b3 L a) {b : Nat} {cs : Array Value} {t : TypeId} {fr : Nat × Nat} (hb : w.heap[b]? = some (.cells cs t fr)) (ht : t ≠ 123) : b ≠ p := by
  obtain ⟨cs', hp⟩ := h.blk
  rintro rfl
  rw [hp] at hb
  cases hb
  exact ht rfl
theorem PR.below {w0 w w' : World} {p b3 : Nat} {L : List Int} {a : Nat} (h : PR w0 w p b3 L a) (hb : Below w.heap.size w w') : PR w0 w' p b3 L a := by
  obtain ⟨S, hr⟩ := h.rd
  exact ⟨⟨S, hr.below hb⟩, (hb.block _ (lt_of_block h.box)).trans h.box, h.pge, h.bel.trans (hb.mono h.bel.size)⟩
theorem PR.step {w0 w w' : World} {S : Nat → Prop} {p b3 : Nat} {L : List Int} {a a' : Nat} (h : PR w0 w p b3 L a) (hr : Rd w' S p L a') (hf : Fr (fun k => k = p) w w') : PR w0 w' p b3 L a' :=
  ⟨⟨S, hr⟩, blk_fr h.box hf (h.ne h.box (by decide)), h.pge, h.bel.trans (hf.to_below h.bel.size (fun j hj => by subst hj; exact h.pge))⟩
theorem get_ok {w0 w : World} {p b3 : Nat} {L : List Int} {a : Nat} (h : PR w0 w p b3 L a) (n : Nat) (x : Int) (hx : val ((L.drop a).take n) = x) (hn : n ≤ 32) (hl : a + n ≤ L.length) :
    Calls Tryd.prog 75 #[.int .i64 (n : Int), .pointer (some ⟨b3, 0, none⟩)] w fun e w' => e = .returned (.int .i64 x) ∧ PR w0 w' p b3 L (a + n) ∧ Fr (fun k => k = p) w w' := by
  have hc := cell_of_one h.box
  obtain ⟨S, hr⟩ := h.rd
  have hg : rGet L a (n : Int) = (x, 0, a + n) := by
    unfold rGet
    rw [if_neg (by omega), if_neg (by omega), Int.toNat_natCast, hx]
  have HGET := Aside0.mk (Get_any S p a L (n : Int) w hr)
  rw [hg] at HGET
  have H := Aside0.mk h
  clear h hg hx hr
  go_enter Tryd.func75, Tryd.ntmps75
  go_wp2_with fail
  refine HGET.out.mono ?_
  rintro e w1 ⟨rfl, hr, hf⟩
  dsimp only at *
  have HR := Aside0.mk hr
  have HF := Aside0.mk hf
  clear hr hf
  go_wp2_with fail
  refine (refuse_no 4 w1).mono ?_
  rintro e w2 ⟨rfl, rfl⟩
  go_wp2_with fail
  go_ret
  exact ⟨rfl, H.out.step HR.out HF.out, HF.out⟩
theorem get_err {w0 w : World} {p b3 : Nat} {L : List Int} {a : Nat} (h : PR w0 w p b3 L a) (n : Nat) (hn : n ≤ 32) (hl : L.length < a + n) :
    Calls Tryd.prog 75 #[.int .i64 (n : Int), .pointer (some ⟨b3, 0, none⟩)] w fun e w' => e = gone 4 ∧ Below w0.heap.size w0 w' := by
  have hc := cell_of_one h.box
  obtain ⟨S, hr⟩ := h.rd
  have hg : rGet L a (n : Int) = (0, 3, a) := by
    unfold rGet
    rw [if_neg (by omega), if_pos (by omega)]
  have HGET := Aside0.mk (Get_any S p a L (n : Int) w hr)
  rw [hg] at HGET
  have H := Aside0.mk h
  clear h hg hr
  go_enter Tryd.func75, Tryd.ntmps75
  go_wp2_with fail
  refine HGET.out.mono ?_
  rintro e w1 ⟨rfl, hr, hf⟩
  dsimp only at *
  have HR := Aside0.mk hr
  have HF := Aside0.mk hf
  clear hr hf
  go_wp2_with fail
  refine (refuse_yes 4 w1).mono ?_
  rintro e w2 ⟨rfl, rfl⟩
  go_wp2_with fail
  exact ⟨rfl, rfl, (H.out.step HR.out HF.out).bel⟩
theorem text_ok {w0 w : World} {p b3 : Nat} {L : List Int} {a : Nat} (h : PR w0 w p b3 L a) (n : Nat) (x : List Int) (hx : pk ((L.drop a).take (8 * n)) = x) (hn : n ≤ 1000000) (hl : a + 8 * n ≤ L.length) :
    Calls Tryd.prog 77 #[.int .i64 (n : Int), .pointer (some ⟨b3, 0, none⟩)] w fun e w' => e = .returned (.string (strOfNums x)) ∧ PR w0 w' p b3 L (a + 8 * n) ∧ Fr (fun k => k = p) w w' := by
  have hc := cell_of_one h.box
  obtain ⟨S, hr⟩ := h.rd
  have hg : rTake L a (8 * (n : Int)) = ((L.drop a).take (8 * n), 0, a + 8 * n) := by
    unfold rTake
    rw [if_neg (by omega), if_neg (by omega), show (8 * (n : Int)).toNat = 8 * n by omega]
  have HGET := Aside0.mk (Take_any S p a L (8 * (n : Int)) w hr)
  rw [hg] at HGET
  have hw : wrap64 (8 * (n : Int)) = 8 * (n : Int) := wrap64_id (by omega) (by omega)
  have H := Aside0.mk h
  have HXX := Aside0.mk hx
  clear h hg hr hx
  go_enter Tryd.func77, Tryd.ntmps77
  go_wp2_with fail
  refine HGET.out.mono ?_
  rintro e w1 ⟨v, S', rfl, hv, hs, hr, hf⟩
  dsimp only at *
  rw [HXX.out] at hv
  obtain ⟨A1, c1, rfl, hc1, hC1⟩ := Kd.R_reads hv
  have hcs := Kd.C_string (P := Tryd.prog) (src := 27) (dst := 9) (c := c1) Tryd.underlying27 (by kernel_rfl) Tryd.underlying9 hC1
  have HR := Aside0.mk hr
  have HF := Aside0.mk hf
  clear hr hf hv hs hC1 hc1
  go_wp2_with fail
  refine (refuse_no 4 w1).mono ?_
  rintro e w2 ⟨rfl, rfl⟩
  go_wp2_with fail
  go_ret
  exact ⟨rfl, H.out.step HR.out HF.out, HF.out⟩
theorem text_err {w0 w : World} {p b3 : Nat} {L : List Int} {a : Nat} (h : PR w0 w p b3 L a) (n : Nat) (hn : n ≤ 1000000) (hl : L.length < a + 8 * n) :
    Calls Tryd.prog 77 #[.int .i64 (n : Int), .pointer (some ⟨b3, 0, none⟩)] w fun e w' => e = gone 4 ∧ Below w0.heap.size w0 w' := by
  have hc := cell_of_one h.box
  obtain ⟨S, hr⟩ := h.rd
  have hg : rTake L a (8 * (n : Int)) = ([], 3, a) := by
    unfold rTake
    rw [if_neg (by omega), if_pos (by omega)]
  have HGET := Aside0.mk (Take_any S p a L (8 * (n : Int)) w hr)
  rw [hg] at HGET
  have hw : wrap64 (8 * (n : Int)) = 8 * (n : Int) := wrap64_id (by omega) (by omega)
  have H := Aside0.mk h
  clear h hg hr
  go_enter Tryd.func77, Tryd.ntmps77
  go_wp2_with fail
  refine HGET.out.mono ?_
  rintro e w1 ⟨v, S', rfl, hv, hs, hr, hf⟩
  dsimp only at *
  have HR := Aside0.mk hr
  have HF := Aside0.mk hf
  clear hr hf hv hs
  go_wp2_with fail
  refine (refuse_yes 4 w1).mono ?_
  rintro e w2 ⟨rfl, rfl⟩
  go_wp2_with fail
  exact ⟨rfl, rfl, (H.out.step HR.out HF.out).bel⟩
end Go.Proofs.YthlmnnjbpikijaaDoor.P
end
section
namespace Go.Proofs.YthlmnnjbpikijaaDoor.P
open Go.RowKit Go.Shelf Go.Proofs.YthlmnnjbpikijaaDoor.Bits Go.Proofs.YthlmnnjbpikijaaDoorW.PrintWords Go.Proofs.YthlmnnjbpikijaaDoorW.PrintLast Go.Proofs.YthlmnnjbpikijaaDoorW.PrintMore
set_option linter.unusedVariables false
set_option linter.unusedSimpArgs false
attribute [local go_sem ↓] Go.wp_at_zero Go.wp_at_succ
abbrev tag0' : Obj := .cells #[.int .i64 0, .int .i64 0, .slice none 0 0] 24 (0, 0)
def ParsedPost (w : World) (r : Option TG) (e : Ending) (w' : World) : Prop :=
  Below w.heap.size w w' ∧ match r with | some t => ∃ v, e = .returned (.agg #[.int .i64 t.skip, .int .i64 t.cut, v]) ∧ RowE w' w.heap.size v t.fs | none => e = gone 4
/-- What a round of parsed hands on. -/
structure RS (w wr : World) (p b2 b3 b7 : Nat) (L : List Int) (a : Nat) (s u : Int) (fs : List S56) : Prop where
  pr : PR w wr p b3 L a
  k2 : wr.heap[b2]? = some tag0'
  k7 : ∃ A c, wr.heap[b7]? = some (tagObj s u A fs.length c) ∧ RowE wr w.heap.size (.slice A fs.length c) fs
theorem RS.fr {w wr W : World} {p b2 b3 b7 : Nat} {L : List Int} {a a' : Nat} {s u : Int} {fs : List S56} (h : RS w wr p b2 b3 b7 L a s u fs) (hp : PR w W p b3 L a') (hf : Fr (fun k => k = p) wr W) : RS w W p b2 b3 b7 L a' s u fs := by
  obtain ⟨A, c, hk, hr⟩ := h.k7
  refine ⟨hp, blk_fr h.k2 hf (h.pr.ne h.k2 (by decide)), A, c, blk_fr hk hf (h.pr.ne hk (by decide)), RowV.fr hr hf (fun j cs hj _ he => ?_)⟩
  subst hj
  exact h.pr.ne he (by decide) rfl
/-- .. and a field that is being read, at be. -/
structure RT (w wr : World) (p b2 b3 b7 be : Nat) (L : List Int) (a : Nat) (s u : Int) (fs : List S56) (ky : ByteArray) : Prop where
  pr : PR w wr p b3 L a
  k2 : wr.heap[b2]? = some tag0'
  k7 : ∃ A c, wr.heap[b7]? = some (tagObj s u A fs.length c) ∧ RowE wr w.heap.size (.slice A fs.length c) fs ∧ ∀ j, (Value.slice A fs.length c).ownBlock = some j → j ≠ be
  ke : wr.heap[be]? = some (.cells #[.string ky, .string ⟨#[]⟩] 56 (0, 0))
theorem RT.fr {w wr W : World} {p b2 b3 b7 be : Nat} {L : List Int} {a a' : Nat} {s u : Int} {fs : List S56} {ky : ByteArray} (h : RT w wr p b2 b3 b7 be L a s u fs ky) (hp : PR w W p b3 L a') (hf : Fr (fun k => k = p) wr W) : RT w W p b2 b3 b7 be L a' s u fs ky := by
  obtain ⟨A, c, hk, hr, hn⟩ := h.k7
  refine ⟨hp, blk_fr h.k2 hf (h.pr.ne h.k2 (by decide)), ⟨A, c, blk_fr hk hf (h.pr.ne hk (by decide)), RowV.fr hr hf (fun j cs hj _ he => ?_), hn⟩, blk_fr h.ke hf (h.pr.ne h.ke (by decide))⟩
  subst hj
  exact h.pr.ne he (by decide) rfl
theorem RS.toRT {w wr : World} {p b2 b3 b7 : Nat} {L : List Int} {a : Nat} {s u : Int} {fs : List S56} (h : RS w wr p b2 b3 b7 L a s u fs) (ky : ByteArray) : RT w (wr.alloc (.cells #[.string ky, .string ⟨#[]⟩] 56)) p b2 b3 b7 wr.heap.size L a s u fs ky := by
  have hb : Below wr.heap.size wr (wr.alloc (.cells #[.string ky, .string ⟨#[]⟩] 56)) := below_alloc (Below.refl _ _) _
  obtain ⟨A, c, hk, hr⟩ := h.k7
  refine ⟨h.pr.below hb, (hb.block _ (lt_of_block h.k2)).trans h.k2, ⟨A, c, (hb.block _ (lt_of_block hk)).trans hk, RowV.below hr hb, fun j hj => ?_⟩, World.alloc_heap_new wr _⟩
  obtain ⟨⟨cs, hc⟩, _⟩ := RowV.block hr j hj
  have := lt_of_block hc
  omega
theorem fd_one (W : World) (k tx : ByteArray) : FD (W.alloc (.cells #[.string k, .string tx] 56 (0, 0))) (some ⟨W.heap.size, 0, none⟩) 1 [⟨k, tx⟩] := ⟨⟨rfl, by simp, fun _ => ⟨_, rfl, fun j p hp => by
  match j, hp with
  | 0, hp =>
    cases hp
    refine ⟨[.string k, .string tx], rfl, k56_mk _ ⟨k, tx⟩, fun m x hx => ?_⟩
    have e : ((⟨W.heap.size, 0, none⟩ : Addr).add (0 * 2 + m)) = ⟨W.heap.size, m, none⟩ := by simp [Addr.add_lit]
    show (W.alloc (.cells #[.string k, .string tx] 56 (0, 0))).cell? ((⟨W.heap.size, 0, none⟩ : Addr).add (0 * 2 + m)) = some x
    rw [e, cell_of_row _ _ _ _ _ _ (World.alloc_heap_new W _)]
    simpa using hx
  | j + 1, hp => simp at hp⟩⟩, by simp, by simp⟩
set_option maxHeartbeats 8000000 in
set_option maxRecDepth 100000 in
theorem parsed_any (A : Option Addr) (c : Nat) (B : List Int) (w : World) (hC : Kd.C (Kd.int .u8) w A B.length B) (h8 : is8 B) (hB : 8 * B.length ≤ 1048576) (hc : B.length ≤ c) :
    Calls Tryd.prog 67 #[.slice A B.length c] w (ParsedPost w (fParse B)) := by
  obtain ⟨w1, hw1⟩ : ∃ w1, w1 = w.alloc tag0' := ⟨_, rfl⟩
  have hb1 : Below w.heap.size w w1 := by rw [hw1]; exact below_alloc (Below.refl _ _) _
  have hk1 : w1.heap[w.heap.size]? = some tag0' := by rw [hw1]; exact World.alloc_heap_new w _
  have hop0 := Open_any A c B (8 * (B.length : Int)) w1 (Kd.C_below hC hb1) h8 (by omega) hc
  have hoe : openE B (8 * (B.length : Int)) = 0 := by unfold openE; rw [if_neg (by omega), if_neg (by omega)]
  have hop : Calls Tryd.prog 74 #[.slice A B.length c, .int .i64 (8 * (B.length : Int))] w1 fun e w' => ∃ p S, e = .returned (.tuple #[.pointer (some ⟨p, 0, none⟩), .int .i64 0]) ∧ Rd w' S p (ofB B (8 * B.length)) 0 ∧ w1.heap.size ≤ p ∧ (∀ k, S k → w1.heap.size ≤ k) ∧ Below w1.heap.size w1 w' := hop0.mono fun e w' q => by
    unfold OpenPost at q
    rwa [if_pos hoe, show (8 * (B.length : Int)).toNat = 8 * B.length by omega] at q
  obtain ⟨L, hL⟩ : ∃ L, ofB B (8 * B.length) = L := ⟨_, rfl⟩
  have HLL : Aside0 (L.length = 8 * B.length) := ⟨by rw [← hL]; exact ofB_length _ _⟩
  have v16 := fun a h => val_two (B := B) h8 a h
  have v8 := fun a h => val_one8 (B := B) h8 a h
  have pk8 := fun a n h => pk_seg (B := B) h8 a n h
  rw [hL] at hop v16 v8 pk8
  have hwm : wrap64 (8 * (B.length : Int)) = 8 * (B.length : Int) := wrap64_id (by omega) (by omega)
  obtain ⟨r, hr⟩ : ∃ r, fParse B = r := ⟨_, rfl⟩
  rw [hr]
  unfold fParse at hr
  obtain ⟨s, es⟩ : ∃ s, B.getD 0 0 * 256 + B.getD 1 0 = s := ⟨_, rfl⟩
  obtain ⟨u, eu⟩ : ∃ u, B.getD 2 0 * 256 + B.getD 3 0 = u := ⟨_, rfl⟩
  obtain ⟨nF, en⟩ : ∃ n : Nat, B.getD 4 0 = (n : Int) := ⟨(B.getD 4 0).toNat, by have := (getD8 h8 4).1; omega⟩
  rw [es, eu, en, Int.toNat_natCast] at hr
  have HNF : Aside0 (nF ≤ 255) := ⟨by have := (getD8 h8 4).2; omega⟩
  have HES := Aside0.mk es
  have HEU := Aside0.mk eu
  have HEN := Aside0.mk en
  have HR := Aside0.mk hr
  have H8 := Aside0.mk h8
  have HB1 := Aside0.mk hb1
  have HK1 := Aside0.mk hk1
  have HW1 := Aside0.mk hw1
  have HV16 := Aside0.mk v16
  have HV8 := Aside0.mk v8
  have HPK := Aside0.mk pk8
  have HOP := Aside0.mk hop
  have HBL := Aside0.mk hB
  clear hb1 hk1 hop0 hop hoe v16 v8 pk8 hr hL hC h8 hw1 es eu en
  go_enter Tryd.func67, Tryd.ntmps67
  go_wp2_with fail
  rw [← HW1.out]
  refine HOP.out.mono ?_
  rintro e w2 ⟨p, S, rfl, hrd, hp, hs, hb2⟩
  obtain ⟨w3, hw3⟩ : ∃ w3, w3 = w2.alloc (ptrBox p) := ⟨_, rfl⟩
  have hb3 : Below w2.heap.size w2 w3 := by rw [hw3]; exact below_alloc (Below.refl _ _) _
  have hpr : PR w w3 p w2.heap.size L 0 := ⟨⟨S, hrd.below hb3⟩, by rw [hw3]; exact World.alloc_heap_new w2 _, Nat.le_trans HB1.out.size hp, HB1.out.trans ((hb2.trans (hb3.mono hb2.size)).mono HB1.out.size)⟩
  have hk3 : w3.heap[w.heap.size]? = some tag0' := by rw [hw3]; exact blk_alloc' ((hb2.block _ (lt_of_block HK1.out)).trans HK1.out) _
  have HPR := Aside0.mk hpr
  have HK3 := Aside0.mk hk3
  have HW3 := Aside0.mk hw3
  have hmf : ∀ (fn : Fn) (first cap : Array Value) (W : World), (Instr.makeFunc fn first cap).run Tryd.prog W = .ok (.func fn first cap) W := fun _ _ _ _ => rfl
  clear hrd hp hs hb2 hb3 hpr hk3 hw3 HOP
  by_cases h2 : B.length < 2
  · have HN : Aside0 (r = none) := ⟨by rw [← HR.out, if_pos (by omega)]⟩
    have HG := Aside0.mk (get_err HPR.out 16 (by omega) (by have := HLL.out; omega))
    clear h2
    go_wp2_with fail
    rw [← HW3.out]
    refine HG.out.mono ?_
    rintro e w4 ⟨rfl, hb⟩
    have HB := Aside0.mk hb
    clear hb
    go_wp2_with fail
    refine ⟨rfl, HB.out, ?_⟩
    rw [HN.out]
  · have HG := Aside0.mk (get_ok HPR.out 16 s ((HV16.out 0 (by omega)).trans HES.out) (by omega) (by have := HLL.out; omega))
    clear h2
    go_wp2_with fail
    rw [← HW3.out]
    refine HG.out.mono ?_
    rintro e w4 ⟨rfl, hp4, hf4⟩
    have HP4 := Aside0.mk hp4
    have HK4 := Aside0.mk (blk_fr HK3.out hf4 (HPR.out.ne HK3.out (by decide)))
    clear hp4 hf4 HG
    by_cases h4 : B.length < 4
    · have HN : Aside0 (r = none) := ⟨by rw [← HR.out, if_pos (by omega)]⟩
      have HG := Aside0.mk (get_err HP4.out 16 (by omega) (by have := HLL.out; omega))
      clear h4
      go_wp2_with fail
      refine HG.out.mono ?_
      rintro e W ⟨rfl, hb⟩
      have HB := Aside0.mk hb
      clear hb
      go_wp2_with fail
      refine ⟨rfl, HB.out, ?_⟩
      rw [HN.out]
    · have HG := Aside0.mk (get_ok HP4.out 16 u ((HV16.out 2 (by omega)).trans HEU.out) (by omega) (by have := HLL.out; omega))
      clear h4
      go_wp2_with fail
      refine HG.out.mono ?_
      rintro e w5 ⟨rfl, hp5, hf5⟩
      obtain ⟨w6, hw6⟩ : ∃ w6, w6 = w5.alloc (tagObj s u none 0 0) := ⟨_, rfl⟩
      have hb6 : Below w5.heap.size w5 w6 := by rw [hw6]; exact below_alloc (Below.refl _ _) _
      have hk5 := blk_fr HK4.out hf5 (HP4.out.ne HK4.out (by decide))
      have hrs : RS w w6 p w.heap.size w2.heap.size w5.heap.size L (8 * 4) s u [] := ⟨hp5.below hb6, (hb6.block _ (lt_of_block hk5)).trans hk5, none, 0, by rw [hw6]; exact World.alloc_heap_new w5 _, World.ownsRow_nil _ w.heap.size _ _⟩
      have HRS := Aside0.mk hrs
      have HW6 := Aside0.mk hw6
      have HSZ5 : Aside0 (w.heap.size < w5.heap.size) := ⟨lt_of_block hk5⟩
      clear hp5 hf5 hb6 hk5 hrs hw6 HG HP4 HK4
      by_cases h5 : B.length < 5
      · have HN : Aside0 (r = none) := ⟨by rw [← HR.out, if_pos (by omega)]⟩
        have HG := Aside0.mk (get_err HRS.out.pr 8 (by omega) (by have := HLL.out; omega))
        clear h5
        go_wp2_with fail
        rw [← HW6.out]
        refine HG.out.mono ?_
        rintro e W ⟨rfl, hb⟩
        have HB := Aside0.mk hb
        clear hb
        go_wp2_with fail
        refine ⟨rfl, HB.out, ?_⟩
        rw [HN.out]
      · have HG := Aside0.mk (get_ok HRS.out.pr 8 (nF : Int) ((HV8.out 4 (by omega)).trans HEN.out) (by omega) (by have := HLL.out; omega))
        have hr5 := HR.out
        rw [if_neg h5] at hr5
        have HR5 := Aside0.mk hr5
        have H5 := Aside0.mk h5
        clear hr5 HR h5
        go_wp2_with fail
        rw [← HW6.out]
        refine HG.out.mono ?_
        rintro e w7 ⟨rfl, hp7, hf7⟩
        have HRS7 : Aside0 (RS w w7 p w.heap.size w2.heap.size w5.heap.size L (8 * 5) s u []) := ⟨HRS.out.fr hp7 hf7⟩
        clear hp7 hf7 HG HRS hwm
        go_wp2_with fail
        go_loopw [26] (fun v wr => ∃ (k a : Nat) (fs : List S56), v = .int .i64 (k : Int) ∧ k ≤ nF ∧ a ≤ B.length ∧ Aside0 (fs.length = k) ∧ Aside0 (pF nF (B.drop 5) [] = pF (nF - k) (B.drop a) fs) ∧ Aside0 (RS w wr p w.heap.size w2.heap.size w5.heap.size L (8 * a) s u fs)) (fun v _ => nF - (intOf v).toNat)
        case atStart => exact ⟨0, 5, [], rfl, Nat.zero_le _, by have := H5.out; omega, ⟨rfl⟩, ⟨rfl⟩, HRS7⟩
        case round =>
          obtain ⟨k, a, fs, rfl, hk, ha, hfl, HP, HS⟩ := hrel
          by_cases hlt : k < nF
          · have hpf := HP.out
            rw [show nF - k = (nF - (k + 1)) + 1 by omega, pF, List.length_drop] at hpf
            have HPF := Aside0.mk hpf
            have hlB := HBL.out
            clear hpf
            by_cases q4 : B.length - a < 4
            · have HN : Aside0 (r = none) := ⟨by rw [← HR5.out, HPF.out, if_pos (by omega)]⟩
              have HG := Aside0.mk (text_err HS.out.pr 4 (by omega) (by have := HLL.out; omega))
              clear q4
              go_wp2_with fail
              refine HG.out.mono ?_
              rintro e W ⟨rfl, hb⟩
              have HB := Aside0.mk hb
              clear hb
              go_wp2_with fail
              refine ⟨rfl, HB.out, ?_⟩
              rw [HN.out]
            · have HG := Aside0.mk (text_ok HS.out.pr 4 ((B.drop a).take 4) (HPK.out a 4 (by omega)) (by omega) (by have := HLL.out; omega))
              generalize (B.drop a).take 4 = ky at *
              go_wp2_with fail
              refine HG.out.mono ?_
              rintro e w8 ⟨rfl, hp8, hf8⟩
              obtain ⟨w9, hw9⟩ : ∃ w9, w9 = w8.alloc (.cells #[.string (strOfNums ky), .string ⟨#[]⟩] 56) := ⟨_, rfl⟩
              have HS9 : Aside0 (RT w w9 p w.heap.size w2.heap.size w5.heap.size w8.heap.size L (8 * a + 8 * 4) s u fs (strOfNums ky)) := ⟨by rw [hw9]; exact (HS.out.fr hp8 hf8).toRT _⟩
              have HW9 := Aside0.mk hw9
              have HSZ8 : Aside0 (w.heap.size ≤ w8.heap.size) := ⟨hp8.bel.size⟩
              clear hp8 hf8 hw9 HG
              by_cases q6 : B.length - a < 6
              · have HN : Aside0 (r = none) := ⟨by rw [← HR5.out, HPF.out, if_pos q6]⟩
                have HG := Aside0.mk (get_err HS9.out.pr 16 (by omega) (by have := HLL.out; omega))
                clear q6
                go_wp2_with fail
                rw [← HW9.out]
                refine HG.out.mono ?_
                rintro e W ⟨rfl, hb⟩
                have HB := Aside0.mk hb
                clear hb
                go_wp2_with fail
                refine ⟨rfl, HB.out, ?_⟩
                rw [HN.out]
              · have hpf := HPF.out
                rw [if_neg q6] at hpf
                have ht : (B.drop a).getD 4 0 * 256 + (B.drop a).getD 5 0 = ((tl (B.drop a) : Nat) : Int) := by
                  unfold tl
                  rw [drop_getD, drop_getD]
                  have := getD8 H8.out (a + 4)
                  have := getD8 H8.out (a + 5)
                  omega
                have hvx := HV16.out (a + 4) (by omega)
                rw [show a + 4 + 1 = a + 5 by omega, ← drop_getD, ← drop_getD, ht] at hvx
                have htl : tl (B.drop a) ≤ 65535 := by
                  have h4 := getD8 H8.out (a + 4)
                  have h5 := getD8 H8.out (a + 5)
                  rw [drop_getD, drop_getD] at ht
                  omega
                generalize htv : tl (B.drop a) = x at *
                have HG := Aside0.mk (get_ok HS9.out.pr 16 (x : Int) (by rw [show 8 * a + 8 * 4 = 8 * (a + 4) by omega]; exact hvx) (by omega) (by have := HLL.out; omega))
                have HPF2 := Aside0.mk hpf
                clear hpf ht hvx htv
                go_wp2_with fail
                rw [← HW9.out]
                refine HG.out.mono ?_
                rintro e wa ⟨rfl, hpa, hfa⟩
                have HSA : Aside0 (RT w wa p w.heap.size w2.heap.size w5.heap.size w8.heap.size L (8 * (a + 6)) s u fs (strOfNums ky)) := ⟨by have := HS9.out.fr hpa hfa; rwa [show 8 * a + 8 * 4 + 16 = 8 * (a + 6) by omega] at this⟩
                clear hpa hfa HG
                by_cases qx : B.length - a < 6 + x
                · have HN : Aside0 (r = none) := ⟨by rw [← HR5.out, HPF2.out, if_pos qx]⟩
                  have HG := Aside0.mk (text_err HSA.out.pr x (by omega) (by have := HLL.out; omega))
                  clear qx
                  go_wp2_with fail
                  refine HG.out.mono ?_
                  rintro e W ⟨rfl, hb⟩
                  have HB := Aside0.mk hb
                  clear hb
                  go_wp2_with fail
                  refine ⟨rfl, HB.out, ?_⟩
                  rw [HN.out]
                · have hpf := HPF2.out
                  rw [if_neg qx, List.drop_drop, List.drop_drop] at hpf
                  have HPF3 := Aside0.mk hpf
                  have HG := Aside0.mk (text_ok HSA.out.pr x ((B.drop (a + 6)).take x) (HPK.out (a + 6) x (by omega)) (by omega) (by have := HLL.out; omega))
                  clear hpf
                  generalize htq : (B.drop (a + 6)).take x = tx at *
                  clear htq
                  go_wp2_with fail
                  refine HG.out.mono ?_
                  rintro e wb ⟨rfl, hpb, hfb⟩
                  have hsb := HSA.out.fr hpb hfb
                  obtain ⟨A7, c7, hk7, hr7, hn7⟩ := hsb.k7
                  have hfd7 := RowE.fd hr7 (by have := HNF.out; have := hfl.out; omega)
                  obtain ⟨wc, hwc⟩ : ∃ wc, wc = wb.setCell ⟨w8.heap.size, 1, none⟩ (.string (strOfNums tx)) := ⟨_, rfl⟩
                  have hfc : Fr (fun k => k = w8.heap.size) wb wc := by rw [hwc]; exact Fr.setCell (S := fun k => k = w8.heap.size) (Fr.refl _ _) (p := ⟨w8.heap.size, 1, none⟩) (fun _ => rfl) _
                  have hkc : wc.heap[w8.heap.size]? = some (.cells #[.string (strOfNums ky), .string (strOfNums tx)] 56 (0, 0)) := by rw [hwc, heap_setCell_same _ _ _ _ _ _ hsb.ke]; rfl
                  have e1 : wb.cell? ⟨w8.heap.size, 1, none⟩ = some (.string ⟨#[]⟩) := by rw [cell_of_row _ _ _ _ _ _ hsb.ke]; rfl
                  have e2 : wb.frozen? ⟨w8.heap.size, 1, none⟩ = false := blk_frozen hsb.ke 1
                  have hne2 : w.heap.size ≠ w8.heap.size := fun e => by have h1 := hsb.k2; have h2 := hsb.ke; rw [e, h2] at h1; cases h1
                  have hne7 : w5.heap.size ≠ w8.heap.size := fun e => by have h1 := hk7; have h2 := hsb.ke; rw [e, h2] at h1; cases h1
                  have hne3 : w2.heap.size ≠ w8.heap.size := fun e => by have h1 := hsb.pr.box; have h2 := hsb.ke; rw [e, h2] at h1; cases h1
                  have hnep := hsb.pr.ne hsb.ke (by decide)
                  have hwge : w.heap.size ≤ w8.heap.size := by
                    exact HSZ8.out
                  obtain ⟨Sx, hrdx⟩ := hsb.pr.rd
                  have hprc : PR w wc p w2.heap.size L (8 * (a + 6) + 8 * x) := ⟨⟨Sx, hrdx.fr hfc (fun e => hnep e.symm) (fun k q e => by
                    obtain ⟨cells, hc⟩ := hrdx.typed k q
                    rw [e, hsb.ke] at hc
                    cases hc)⟩, blk_fr hsb.pr.box hfc hne3, hsb.pr.pge, hsb.pr.bel.trans (hfc.to_below hsb.pr.bel.size (fun j hj => by subst hj; exact hwge))⟩
                  have hk2c := blk_fr hsb.k2 hfc hne2
                  have hk7c := blk_fr hk7 hfc hne7
                  have hr7c : RowE wc w.heap.size (.slice A7 fs.length c7) fs := by
                    refine ⟨hr7.1, ?_⟩
                    rcases hr7.2 with hv | ⟨g, cap, cur, hv, hb, hg, rest⟩
                    · exact .inl hv
                    · exact .inr ⟨g, cap, cur, hv, hb, blk_fr hg hfc (hn7 g (by rw [hv]; rfl)), rest⟩
                  obtain ⟨wd, hwd⟩ : ∃ wd, wd = wc.alloc (.cells #[.string (strOfNums ky), .string (strOfNums tx)] 56 (0, 0)) := ⟨_, rfl⟩
                  have hbd : Below wc.heap.size wc wd := by rw [hwd]; exact below_alloc (Below.refl _ _) _
                  obtain ⟨v9, we, hrun, hr9, hg9⟩ := rowE_append wd w.heap.size _ fs [⟨strOfNums ky, strOfNums tx⟩] ⟨wc.heap.size, 0, none⟩ 1 (RowE.below hr7c hbd) (by rw [hwd]; exact fd_one wc _ _) (by have := HNF.out; have := hfl.out; simp; omega) (Nat.le_trans hprc.bel.size hbd.size) 1 rfl
                  have hszc : wc.heap.size = wb.heap.size := by rw [hwc]; simp [World.setCell]
                  have own7 : ∀ j, (Value.slice A7 fs.length c7).ownBlock = some j → ∃ cs, wd.heap[j]? = some (.cells cs 56 (0, 0)) := fun j hj => (RowV.block (RowE.below hr7c hbd) j hj).1
                  have hge : Fr (fun k => (Value.slice A7 fs.length c7).ownBlock = some k) wd we := (Fr.refl _ _).grown hg9 (fun k _ e => e)
                  have hprd := hprc.below hbd
                  have hk2d := (hbd.block _ (lt_of_block hk2c)).trans hk2c
                  have hk7d := (hbd.block _ (lt_of_block hk7c)).trans hk7c
                  have hk2e := blk_fr hk2d hge (fun e => by obtain ⟨cs, h⟩ := own7 _ e; rw [hk2d] at h; cases h)
                  have hk7e := blk_fr hk7d hge (fun e => by obtain ⟨cs, h⟩ := own7 _ e; rw [hk7d] at h; cases h)
                  have hboxe := blk_fr hprd.box hge (fun e => by obtain ⟨cs, h⟩ := own7 _ e; rw [hprd.box] at h; cases h)
                  obtain ⟨Sd, hrdd⟩ := hprd.rd
                  have hrde := hrdd.fr hge (fun e => by obtain ⟨cs, h⟩ := own7 _ e; obtain ⟨cs', h'⟩ := hprd.blk; rw [h'] at h; cases h) (fun k q e => by obtain ⟨cs, h⟩ := own7 _ e; obtain ⟨cs', h'⟩ := hrdd.typed k q; rw [h'] at h; cases h)
                  have hbele : Below w.heap.size w we := hprd.bel.grown hg9 hprd.bel.size (fun k e => (RowV.block (RowE.below hr7c hbd) k e).2)
                  obtain ⟨A9, c9, rfl, -⟩ := RowE.fd hr9 (by have := HNF.out; have := hfl.out; simp; omega)
                  obtain ⟨fs', hfs'⟩ : ∃ fs', fs ++ [(⟨strOfNums ky, strOfNums tx⟩ : S56)] = fs' := ⟨_, rfl⟩
                  have HFS : Aside0 (fs'.length = fs.length + 1) := ⟨by rw [← hfs']; simp⟩
                  have hpf := HPF3.out
                  rw [hfs'] at hr9 hrun hpf
                  obtain ⟨wf, hwf⟩ : ∃ wf, wf = we.setCell ⟨w5.heap.size, 2, none⟩ (.slice A9 fs'.length c9) := ⟨_, rfl⟩
                  have hff : Fr (fun k => k = w5.heap.size) we wf := by rw [hwf]; exact Fr.setCell (S := fun k => k = w5.heap.size) (Fr.refl _ _) (p := ⟨w5.heap.size, 2, none⟩) (fun _ => rfl) _
                  have hk7f : wf.heap[w5.heap.size]? = some (tagObj s u A9 fs'.length c9) := by rw [hwf, heap_setCell_same _ _ _ _ _ _ hk7e]; rfl
                  have hpre : PR w we p w2.heap.size L (8 * (a + 6) + 8 * x) := ⟨⟨Sd, hrde⟩, hboxe, hprd.pge, hbele⟩
                  have hprf : PR w wf p w2.heap.size L (8 * (a + 6) + 8 * x) := ⟨⟨Sd, hrde.fr hff (fun e => hpre.ne hk7e (by decide) e.symm) (fun k q e => by
                    obtain ⟨cells, hc⟩ := hrde.typed k q
                    rw [e, hk7e] at hc
                    cases hc)⟩, blk_fr hboxe hff (fun e => by rw [e, hk7e] at hboxe; cases hboxe), hprd.pge, hbele.trans (hff.to_below hbele.size (fun j hj => by subst hj; exact Nat.le_of_lt HSZ5.out))⟩
                  have hrs : RS w wf p w.heap.size w2.heap.size w5.heap.size L (8 * (a + 6 + x)) s u fs' := by
                    rw [show 8 * (a + 6) + 8 * x = 8 * (a + 6 + x) by omega] at hprf
                    exact ⟨hprf, blk_fr hk2e hff (Nat.ne_of_lt HSZ5.out), A9, c9, hk7f, RowV.fr hr9 hff (fun j cs hj _ he => by subst hj; rw [hk7e] at he; cases he)⟩
                  have c72 : (wb.setCell ⟨w8.heap.size, 1, none⟩ (.string (strOfNums tx))).cell? ⟨w5.heap.size, 2, none⟩ = some (.slice A7 fs.length c7) := by rw [← hwc, cell_of_row _ _ _ _ _ _ hk7c]; rfl
                  have ce0 : (wb.setCell ⟨w8.heap.size, 1, none⟩ (.string (strOfNums tx))).cell? ⟨w8.heap.size, 0, none⟩ = some (.string (strOfNums ky)) := by rw [← hwc, cell_of_row _ _ _ _ _ _ hkc]; rfl
                  have ce1 : (wb.setCell ⟨w8.heap.size, 1, none⟩ (.string (strOfNums tx))).cell? ⟨w8.heap.size, 1, none⟩ = some (.string (strOfNums tx)) := by rw [← hwc, cell_of_row _ _ _ _ _ _ hkc]; rfl
                  have ee : we.cell? ⟨w5.heap.size, 2, none⟩ = some (.slice A7 fs.length c7) := by rw [cell_of_row _ _ _ _ _ _ hk7e]; rfl
                  have ef : we.frozen? ⟨w5.heap.size, 2, none⟩ = false := blk_frozen hk7e 2
                  rw [hszc, hwd, hwc] at hrun
                  have HRUN := Aside0.mk hrun
                  have HRSF := Aside0.mk hrs
                  have HWF := Aside0.mk hwf
                  have HPF4 := Aside0.mk hpf
                  have HPC := Aside0.mk HP.out
                  clear hsb hk7 hr7 hn7 hfd7 hfc hkc hne2 hne7 hne3 hnep hwge hrdx hprc hk2c hk7c hr7c hbd hr9 hg9 hszc own7 hge hprd hk2d hk7d hk2e hk7e hboxe hrdd hrde hbele hff hk7f hpre hprf hrs hrun hwd hwf hfs' hpf hpb hfb HG hwc
                  have hk9 : k ≤ 255 := by have := HNF.out; omega
                  go_wp2_with (at_builtin; refine wpList_run_append rfl _ _ _ rfl _ _ rfl rfl HRUN.out ?_)
                  go_roundw
                  case rel => exact ⟨k + 1, a + 6 + x, fs', by go_num, by omega, by omega, ⟨by have := HFS.out; have := hfl.out; omega⟩, ⟨by rw [show a + 6 + x = a + (6 + x) by omega]; exact HPF4.out⟩, ⟨by rw [← HWF.out]; exact HRSF.out⟩⟩
                  case measure => simp [intOf]; omega
          · obtain rfl : k = nF := by omega
            have hr6 := HR5.out
            rw [HP.out, Nat.sub_self] at hr6
            simp only [pF, List.length_drop] at hr6
            obtain ⟨S, hrd⟩ := HS.out.pr.rd
            have HLF := Aside0.mk (Left_any S p (8 * a) L wr hrd)
            have hbox := cell_of_one HS.out.pr.box
            by_cases hre : B.length - a = 0
            · obtain ⟨A7, c7, hk7, hr7⟩ := HS.out.k7
              have hl0 : (L.length : Int) - ((8 * a : Nat) : Int) = 0 := by have := HLL.out; omega
              rw [hl0] at HLF
              obtain ⟨A7', c7', e7, hfd⟩ := RowE.fd hr7 (by have := HNF.out; have := hfl.out; omega)
              cases e7
              have HCK := Aside0.mk (fun W h => Check_any ⟨s, u, fs⟩ A7 c7 W (FD.below hfd h))
              dsimp only at HCK
              have hbel := HS.out.pr.bel
              have hk2 := HS.out.k2
              by_cases hok : okT ⟨s, u, fs⟩ = true
              · rw [if_pos ⟨hre, hok⟩] at hr6
                rw [if_pos hok] at HCK
                have HR6 := Aside0.mk hr6
                have HK7 := Aside0.mk hk7
                have HR7 := Aside0.mk hr7
                have HK2 := Aside0.mk hk2
                have HBE := Aside0.mk hbel
                clear hr6 hk7 hr7 hk2 hbel hrd hl0 hre hfd hok
                go_wp2_with fail
                refine HLF.out.mono ?_
                rintro e wg ⟨rfl, nd, hwg⟩
                have hbg : Below wr.heap.size wr wg := by rw [hwg]; exact below_drewN (Below.refl _ _) nd
                have hk7g := (hbg.block _ (lt_of_block HK7.out)).trans HK7.out
                have c70 : wg.cell? ⟨w5.heap.size, 0, none⟩ = some (.int .i64 s) := by rw [cell_of_row _ _ _ _ _ _ hk7g]; rfl
                have c71 : wg.cell? ⟨w5.heap.size, 1, none⟩ = some (.int .i64 u) := by rw [cell_of_row _ _ _ _ _ _ hk7g]; rfl
                have c72 : wg.cell? ⟨w5.heap.size, 2, none⟩ = some (.slice A7 fs.length c7) := by rw [cell_of_row _ _ _ _ _ _ hk7g]; rfl
                have HBG := Aside0.mk hbg
                clear hwg hbg hk7g
                go_wp2_with fail
                refine (HCK.out wg HBG.out).mono ?_
                rintro e wh ⟨rfl, hbh⟩
                have hbh2 := HBG.out.trans (hbh.mono HBG.out.size)
                have hk7h := (hbh2.block _ (lt_of_block HK7.out)).trans HK7.out
                have HK2H := Aside0.mk ((hbh2.block _ (lt_of_block HK2.out)).trans HK2.out)
                have d70 : wh.cell? ⟨w5.heap.size, 0, none⟩ = some (.int .i64 s) := by rw [cell_of_row _ _ _ _ _ _ hk7h]; rfl
                have d71 : wh.cell? ⟨w5.heap.size, 1, none⟩ = some (.int .i64 u) := by rw [cell_of_row _ _ _ _ _ _ hk7h]; rfl
                have d72 : wh.cell? ⟨w5.heap.size, 2, none⟩ = some (.slice A7 fs.length c7) := by rw [cell_of_row _ _ _ _ _ _ hk7h]; rfl
                have HBH := Aside0.mk hbh2
                clear hbh hbh2 hk7h c70 c71 c72
                go_wp2_with fail
                refine (refuse_no 4 wh).mono ?_
                rintro e wi ⟨rfl, rfl⟩
                go_wp2_with (refine wpList_store_row rfl _ _ _ rfl w.heap.size #[.int .i64 s, .int .i64 u, .slice A7 fs.length c7] rfl rfl _ _ HK2H.out (by kernel_rfl) rfl (by kernel_rfl) ?_)
                refine bodyPost_ret (results_cell_row rfl _ _ w.heap.size _ #[.int .i64 s, .int .i64 u, .slice A7 fs.length c7] (0, 0) _ rfl (setRow_heap _ _ _ _ _ _ HK2H.out) Tryd.underlying24 rfl (by kernel_rfl)) rfl ?_
                have hfin := HBE.out.trans (HBH.out.mono HBE.out.size)
                refine ⟨hfin.trans ((fr_setRow _ _ _).to_below hfin.size (fun j hj => by subst hj; exact Nat.le_refl _)), ?_⟩
                rw [← HR6.out]
                exact ⟨_, rfl, RowV.fr (RowV.below HR7.out HBH.out) (fr_setRow _ _ _) (fun j cs hj _ he => by subst hj; rw [HK2H.out] at he; cases he)⟩
              · rw [if_neg (fun q => hok q.2)] at hr6
                rw [if_neg hok] at HCK
                have HR6 := Aside0.mk hr6
                have HK7 := Aside0.mk hk7
                have HBE := Aside0.mk hbel
                clear hr6 hk7 hr7 hk2 hbel hrd hl0 hre hfd hok
                go_wp2_with fail
                refine HLF.out.mono ?_
                rintro e wg ⟨rfl, nd, hwg⟩
                have hbg : Below wr.heap.size wr wg := by rw [hwg]; exact below_drewN (Below.refl _ _) nd
                have hk7g := (hbg.block _ (lt_of_block HK7.out)).trans HK7.out
                have c70 : wg.cell? ⟨w5.heap.size, 0, none⟩ = some (.int .i64 s) := by rw [cell_of_row _ _ _ _ _ _ hk7g]; rfl
                have c71 : wg.cell? ⟨w5.heap.size, 1, none⟩ = some (.int .i64 u) := by rw [cell_of_row _ _ _ _ _ _ hk7g]; rfl
                have c72 : wg.cell? ⟨w5.heap.size, 2, none⟩ = some (.slice A7 fs.length c7) := by rw [cell_of_row _ _ _ _ _ _ hk7g]; rfl
                have HBG := Aside0.mk hbg
                clear hwg hbg hk7g
                go_wp2_with fail
                refine (HCK.out wg HBG.out).mono ?_
                rintro e wh ⟨rfl, hbh⟩
                have HBH := Aside0.mk (HBG.out.trans (hbh.mono HBG.out.size))
                clear hbh c70 c71 c72
                go_wp2_with fail
                refine (refuse_yes 4 wh).mono ?_
                rintro e wi ⟨rfl, rfl⟩
                go_wp2_with fail
                refine ⟨rfl, HBE.out.trans (HBH.out.mono HBE.out.size), ?_⟩
                rw [← HR6.out]
            · rw [if_neg (fun q => hre q.1)] at hr6
              obtain ⟨lf, hlf⟩ : ∃ lf, (L.length : Int) - ((8 * a : Nat) : Int) = lf := ⟨_, rfl⟩
              rw [hlf] at HLF
              have hd : decide (0 < lf) = true := by have := HLL.out; simp; omega
              have HR6 := Aside0.mk hr6
              have HBE := Aside0.mk HS.out.pr.bel
              clear hr6 hrd hre hlf
              go_wp2_with fail
              refine HLF.out.mono ?_
              rintro e wg ⟨rfl, nd, hwg⟩
              have HBG : Aside0 (Below wr.heap.size wr wg) := ⟨by rw [hwg]; exact below_drewN (Below.refl _ _) nd⟩
              clear hwg
              go_wp2_with fail
              refine (refuse_yes 4 wg).mono ?_
              rintro e wi ⟨rfl, rfl⟩
              go_wp2_with fail
              refine ⟨rfl, HBE.out.trans (HBG.out.mono HBE.out.size), ?_⟩
              rw [← HR6.out]
end Go.Proofs.YthlmnnjbpikijaaDoor.P
end
section
namespace Go.Proofs.YthlmnnjbpikijaaDoor.P
open Go.RowKit Go.Shelf Go.Proofs.YthlmnnjbpikijaaDoor.Bits Go.Proofs.YthlmnnjbpikijaaDoorW.PrintWords Go.Proofs.YthlmnnjbpikijaaDoorW.PrintLast Go.Proofs.YthlmnnjbpikijaaDoorW.PrintMore
set_option linter.unusedVariables false
set_option linter.unusedSimpArgs false
attribute [local go_sem ↓] Go.wp_at_zero Go.wp_at_succ
/-! The values of slices.Equal and tag.Strip. -/
theorem equal_l0 (x y : List Int) (hl : x.length = y.length) (hx : x.length ≤ 1000000000) : ∀ (d i k : Nat), d = x.length - i → i ≤ x.length → d < k → slices_Equal_byte_byte.l0 k x y (x.length : Int) (i : Int) = some (decide (x.drop i = y.drop i))
  | 0, i, k + 1, hd, hi, hk => by
    have : i = x.length := by omega
    subst this
    rw [slices_Equal_byte_byte.l0, if_neg (by omega), List.drop_length, hl, List.drop_length]
    simp
  | d + 1, i, k + 1, hd, hi, hk => by
    have hlt : i < x.length := by omega
    rw [slices_Equal_byte_byte.l0, if_pos (by omega), if_pos (by omega), if_pos (by omega), if_pos (by omega)]
    have hr : ∀ l : List Int, rd l (i : Int) = l.getD i 0 := fun l => by unfold rd; rw [Int.toNat_natCast]
    rw [hr, hr, wrap64_id (by omega) (by omega), show (i : Int) + 1 = ((i + 1 : Nat) : Int) by omega, drop_at x i hlt, drop_at y i (by omega)]
    split
    case isTrue h =>
      rw [equal_l0 x y hl hx d (i + 1) k (by omega) (by omega) (by omega), h]
      simp
    case isFalse h =>
      have hne : ¬ (x.getD i 0 :: x.drop (i + 1) = y.getD i 0 :: y.drop (i + 1)) := fun e => h (List.cons.inj e).1
      rw [decide_eq_false hne]
theorem equal_val (x y : List Int) (k : Nat) (hx : x.length ≤ 1000000000) (hk : x.length < k) : slices_Equal_byte_byte.f k x y = some (decide (x = y)) := by
  unfold slices_Equal_byte_byte.f
  by_cases hl : x.length = y.length
  · rw [if_pos (by omega)]
    have := equal_l0 x y hl hx x.length 0 k (by omega) (by omega) hk
    simpa using this
  · rw [if_neg (by omega)]
    have : x ≠ y := fun e => hl (by rw [e])
    simp [this]
theorem strip_l0 (x : List Int) (h8 : is8 x) (hx : x.length ≤ 200000000) : ∀ (d i k : Nat) (o : List Int), d = x.length - i → i ≤ x.length → o ++ strp (prv x i) (x.drop i) = strp 0 x → o.length ≤ i → d + 2 * x.length + 2 < k → tag_Strip.l0 k x o x (x.length : Int) (i : Int) = some (fStrip x)
  | 0, i, k + 1, o, hd, hi, ho, hol, hk => by
    have : i = x.length := by omega
    subst this
    rw [List.drop_length] at ho
    have ho2 : o = strp 0 x := by simpa [strp] using ho
    have h8o : is8 o := by rw [ho2]; exact strp_8 0 h8
    have hlo := (stf_len o).2
    rw [tag_Strip.l0, if_neg (by omega)]
    have hs : tag_Stuff.f o = some (stf o) := by
      unfold tag_Stuff.f
      rw [if_pos (by omega), if_pos]
      rw [List.all_eq_true]
      intro b hb
      have := h8o b hb
      simp; omega
    rw [hs, Option.bind_some, equal_val _ _ _ (by omega) (by omega), Option.bind_some]
    unfold fStrip
    rw [ho2]
    by_cases e : stf (strp 0 x) = x
    · rw [if_pos e, decide_eq_true e]; rfl
    · rw [if_neg e, decide_eq_false e]; rfl
  | d + 1, i, k + 1, o, hd, hi, ho, hol, hk => by
    have hlt : i < x.length := by omega
    have hr : ∀ j : Nat, rd x (j : Int) = x.getD j 0 := fun j => by unfold rd; rw [Int.toNat_natCast]
    have hst := strp_drop x i hlt
    have hw : wrap64 ((i : Int) + 1) = ((i + 1 : Nat) : Int) := by rw [wrap64_id (by omega) (by omega)]; omega
    have IH := fun o' h1 h2 => strip_l0 x h8 hx d (i + 1) k o' (by omega) (by omega) h1 h2 (by omega)
    rw [tag_Strip.l0, if_pos (by omega), if_pos (by omega), if_pos (by omega), hr i, hw]
    have hk1 : o ++ [x.getD i 0] ++ strp (prv x (i + 1)) (x.drop (i + 1)) = strp 0 x → (if o.length < 140737488355328 then tag_Strip.l0 k x (o ++ [x.getD i 0]) x (x.length : Int) ((i + 1 : Nat) : Int) else none) = some (fStrip x) := fun h => by
      rw [if_pos (by omega)]
      exact IH _ h (by simp; omega)
    by_cases h0 : x.getD i 0 = 0
    · rw [if_pos h0]
      by_cases hi0 : (i : Int) > 0
      · have hw2 : wrap64 ((i : Int) - 1) = ((i - 1 : Nat) : Int) := by rw [wrap64_id (by omega) (by omega)]; omega
        rw [if_pos hi0, hw2, if_pos (by omega), if_pos (by omega), hr]
        by_cases h5 : x.getD (i - 1) 0 = 255
        · rw [if_pos h5]
          rw [if_pos ⟨h0, by omega, h5⟩, List.nil_append] at hst
          exact IH o (by rw [← hst]; exact ho) (by omega)
        · rw [if_neg h5]
          rw [if_neg (fun q => h5 q.2.2)] at hst
          exact hk1 (by rw [← ho, hst]; simp)
      · rw [if_neg hi0]
        rw [if_neg (fun q => hi0 (by omega))] at hst
        exact hk1 (by rw [← ho, hst]; simp)
    · rw [if_neg h0]
      rw [if_neg (fun q => h0 q.1)] at hst
      exact hk1 (by rw [← ho, hst]; simp)
theorem strip_val (x : List Int) (h8 : is8 x) (hx : x.length ≤ 200000000) : tag_Strip.f (3 * x.length + 4) x = some (fStrip x) :=
  strip_l0 x h8 hx x.length 0 _ [] (by omega) (by omega) rfl (by simp) (by omega)
theorem Strip_any (A : Option Addr) (c : Nat) (x : List Int) (w : World) (hC : Kd.C (Kd.int .u8) w A x.length x) (hc : x.length ≤ c) (h8 : is8 x) (hx : x.length ≤ 200000000) :
    Calls Tryd.prog 22 #[.slice A x.length c] w fun e w' => ∃ v, e = .returned (.tuple #[v, .int .i64 (fStrip x).2]) ∧ Kd.R (Kd.int .u8) 5 w' w.heap.size (fun _ => True) v (fStrip x).1 ∧ Below w.heap.size w w' :=
  tag_Strip.calls _ A c x _ _ w hC hc (strip_val x h8 hx)
theorem or128 (a c : Nat) (hc : c < 128) (ha : a < 4294967296) : Go.bits BinOp.or IntKind.i64 ((a : Int) * 128) (c : Int) = ((a * 128 + c : Nat) : Int) := by
  rw [show ((a : Int) * 128) = ((128 * a : Nat) : Int) by omega, or_i64 _ _ (by omega) (by omega)]
  have h := Nat.two_pow_add_eq_or_of_lt (i := 7) (b := c) (by omega) a
  rw [show (2 : Nat) ^ 7 = 128 from rfl] at h
  rw [← h, Nat.mul_comm]
/-- The length that four bytes say. -/
def acc : List Int → Nat → Nat
  | [], n => n
  | b :: l, n => acc l (n * 128 + b.toNat)
def small7 (l : List Int) : Bool := l.all fun b => decide (b ≤ 127)
def b59 (B : List Int) : List Int := (B.take 9).drop 5
def body (B : List Int) (n : Nat) : List Int := (B.take (9 + n)).drop 9
/-- What tag.read gives: a tag and how many bytes it has, or an error. -/
def fRd (B : List Int) : Except Int (TG × Nat) :=
  if B.length < 9 then .error 3
  else if (strOfNums (B.take 3)).toList = ([83, 72, 84] : List UInt8) then
    if B.getD 3 0 = 1 ∧ B.getD 4 0 ≤ 1 then
      if small7 (b59 B) = true then
        if B.length - 9 < acc (b59 B) 0 then .error 3
        else if (fStrip (body B (acc (b59 B) 0))).2 = 0 ∧ decide ((fStrip (body B (acc (b59 B) 0))).1.length < acc (b59 B) 0) = decide (B.getD 4 0 = 1) then
          match fParse (fStrip (body B (acc (b59 B) 0))).1 with
          | none => .error 4
          | some t => .ok (t, 9 + acc (b59 B) 0)
        else .error 4
      else .error 4
    else .error 4
  else .error 8
def RdPostT (w : World) (r : Except Int (TG × Nat)) (e : Ending) (w' : World) : Prop :=
  Below w.heap.size w w' ∧ match r with | .ok (t, n) => ∃ v, e = .returned (.tuple #[.agg #[.int .i64 t.skip, .int .i64 t.cut, v], .int .i64 (n : Int)]) ∧ RowE w' w.heap.size v t.fs | .error x => e = gone x
theorem b59_len {B : List Int} (h : 9 ≤ B.length) : (b59 B).length = 4 := by unfold b59; rw [List.length_drop, List.length_take]; omega
theorem b59_8 {B : List Int} (h : is8 B) : is8 (b59 B) := fun x hx => h x (List.mem_of_mem_take (List.mem_of_mem_drop hx))
set_option maxHeartbeats 8000000 in
set_option maxRecDepth 100000 in
theorem read_any (A : Option Addr) (c : Nat) (B : List Int) (w : World) (hC : Kd.C (Kd.int .u8) w A B.length B) (h8 : is8 B) (hB : B.length ≤ 130000) (hc : B.length ≤ c) :
    Calls Tryd.prog 43 #[.slice A B.length c] w (RdPostT w (fRd B)) := by
  obtain ⟨w1, hw1⟩ : ∃ w1, w1 = w.alloc tag0' := ⟨_, rfl⟩
  have hb1 : Below w.heap.size w w1 := by rw [hw1]; exact below_alloc (Below.refl _ _) _
  have hk1 : w1.heap[w.heap.size]? = some tag0' := by rw [hw1]; exact World.alloc_heap_new w _
  have hC1 := Kd.C_below hC hb1
  obtain ⟨r, hr⟩ : ∃ r, fRd B = r := ⟨_, rfl⟩
  rw [hr]
  unfold fRd at hr
  by_cases h9 : B.length < 9
  · rw [if_pos h9] at hr
    have hd : decide ((B.length : Int) < 9) = true := by simp; omega
    subst hr
    have HB1 := Aside0.mk hb1
    have HW1 := Aside0.mk hw1
    clear hC1 hk1 hb1 hw1 hC h8
    go_enter Tryd.func43, Tryd.ntmps43
    go_wp2_with fail
    rw [← HW1.out]
    refine (refuse_yes 3 w1).mono ?_
    rintro e W ⟨rfl, rfl⟩
    go_wp2_with fail
    exact ⟨rfl, HB1.out, rfl⟩
  · rw [if_neg h9] at hr
    have hd : decide ((B.length : Int) < 9) = false := by simp; omega
    obtain ⟨ad, rfl, -⟩ := at8 hC1 0 (by omega)
    obtain ⟨ad3, e3, c3⟩ := at8 hC1 3 (by omega)
    cases e3
    obtain ⟨ad4, e4, c4⟩ := at8 hC1 4 (by omega)
    cases e4
    have hs3 : ∀ W : World, (Instr.slice 27 (.slice (some ad) B.length c) none (some (.int .i64 3)) none).run Tryd.prog W = .ok (.slice (some ad) 3 c) W := fun W => by
      have := cut_to (P := Tryd.prog) 27 5 .i64 Tryd.underlying27 (i := _) rfl (some ad) B.length c 3 (by omega) (by omega) hc W
      simpa using this
    have hC3 := Kd.C_take hC1 (m := 3) (by omega)
    rw [show (B.take 3).length = 3 by rw [List.length_take]; omega] at hC3
    have hcs3 := Kd.C_string (P := Tryd.prog) (src := 27) (dst := 9) (c := c) Tryd.underlying27 (by kernel_rfl) Tryd.underlying9 hC3
    obtain ⟨y3, ey3⟩ : ∃ y, B.getD 3 0 = y := ⟨_, rfl⟩
    obtain ⟨y4, ey4⟩ : ∃ y, B.getD 4 0 = y := ⟨_, rfl⟩
    rw [ey3] at c3
    rw [ey4] at c4
    replace c3 : w1.cell? ⟨ad.block, ad.off + 3, none⟩ = some (.int .u8 y3) := c3
    replace c4 : w1.cell? ⟨ad.block, ad.off + 4, none⟩ = some (.int .u8 y4) := c4
    rw [ey3, ey4] at hr
    generalize strOfNums (B.take 3) = sht at *
    have HB1 := Aside0.mk hb1
    have HK1 := Aside0.mk hk1
    have HC1 := Aside0.mk hC1
    have HW1 := Aside0.mk hw1
    have H8 := Aside0.mk h8
    clear hC1 hC3 hk1 hb1 hw1 hC h8
    by_cases hsht : sht.toList = ([83, 72, 84] : List UInt8)
    · rw [if_pos hsht] at hr
      have q : (sht.toList == ([83, 72, 84] : List UInt8)) = true := beq_iff_eq.2 hsht
      have q2 : (sht.toList != ([83, 72, 84] : List UInt8)) = false := by rw [bne, q]; rfl
      by_cases hy3 : y3 = 1
      · by_cases hy4 : y4 ≤ 1
        · rw [if_pos ⟨hy3, hy4⟩] at hr
          have d4 : decide (1 < y4) = false := by simp; omega
          have hy34 : y4 = 0 ∨ y4 = 1 := by have := getD8 H8.out 4; omega
          obtain ⟨S4, hS4⟩ : ∃ S4, b59 B = S4 := ⟨_, rfl⟩
          have hl4 : S4.length = 4 := by rw [← hS4]; exact b59_len (by omega)
          have h84 : is8 S4 := by rw [← hS4]; exact b59_8 H8.out
          obtain ⟨A5, hA5⟩ : ∃ A5, A5 = (if c = 5 then some ad else (some ad).map (·.add (5 * 1))) := ⟨_, rfl⟩
          have hs5 : ∀ W : World, (Instr.slice 27 (.slice (some ad) B.length c) (some (.int .i64 5)) (some (.int .i64 9)) none).run Tryd.prog W = .ok (.slice A5 4 (c - 5)) W := fun W => by
            have := cut_mid (P := Tryd.prog) 27 5 .i64 .i64 Tryd.underlying27 (i := _) rfl 1 rfl (some ad) B.length c 5 9 (by omega) (by omega) (by omega) hc W
            rw [hA5]
            simpa using this
          have hC5 : Kd.C (Kd.int .u8) w1 A5 4 S4 := by
            have := Kd.C_drop (m := 5) (c := c) (Kd.C_take HC1.out (m := 9) (by omega)) (by rw [List.length_take]; omega) (by rw [List.length_take]; omega)
            rw [show ((B.take 9).drop 5) = S4 from hS4, hl4] at this
            rw [hA5]
            exact this
          rw [hS4] at hr
          have HC5 := Aside0.mk hC5
          have HS4 := Aside0.mk hS4
          have HL4 := Aside0.mk hl4
          have H84 := Aside0.mk h84
          have HR := Aside0.mk hr
          clear hr hS4 hl4 h84 hA5 hC5
          subst hy3
          go_enter Tryd.func43, Tryd.ntmps43
          go_wp2_with fail
          rw [← HW1.out]
          refine (refuse_no 3 w1).mono ?_
          rintro e W ⟨rfl, rfl⟩
          go_wp2_with fail
          refine (refuse_no 8 _).mono ?_
          rintro e W ⟨rfl, rfl⟩
          go_wp2_with fail
          refine (refuse_no 4 _).mono ?_
          rintro e W1 ⟨rfl, rfl⟩
          go_wp2_with fail
          go_loopw [4, 32] (fun v u wr => ∃ (k n : Nat), u = .int .i64 (k : Int) ∧ v = .int .i64 (n : Int) ∧ k ≤ 4 ∧ wr = W1 ∧ Aside0 (acc S4 0 = acc (S4.drop k) n) ∧ Aside0 (small7 S4 = small7 (S4.drop k)) ∧ n < 128 ^ k) (fun v u _ => 4 - (intOf u).toNat)
          case atStart => exact ⟨0, 0, rfl, rfl, by omega, rfl, ⟨rfl⟩, ⟨rfl⟩, by simp⟩
          case round =>
            obtain ⟨k, n, rfl, rfl, hk, rfl, HA, HS, hn⟩ := hrel
            have hpow : 128 ^ k ≤ 268435456 := by
              have : (128 : Nat) ^ k ≤ 128 ^ 4 := Nat.pow_le_pow_right (by omega) hk
              simpa using this
            by_cases hlt : k < 4
            · obtain ⟨ad5, rfl, c5⟩ := at8 HC5.out k hlt
              have hd5 := drop_at S4 k (by rw [HL4.out]; omega)
              have h8k := getD8 H84.out k
              obtain ⟨b, eb⟩ : ∃ b, S4.getD k 0 = b := ⟨_, rfl⟩
              rw [eb] at c5 hd5 h8k
              by_cases hb : b ≤ 127
              · obtain ⟨bn, rfl⟩ : ∃ bn : Nat, b = (bn : Int) := ⟨b.toNat, by omega⟩
                have d5 : decide ((127 : Int) < (bn : Int)) = false := by simp; omega
                have HA2 : Aside0 (acc S4 0 = acc (S4.drop (k + 1)) (n * 128 + bn)) := ⟨by rw [HA.out, hd5, acc, Int.toNat_natCast]⟩
                have HS2 : Aside0 (small7 S4 = small7 (S4.drop (k + 1))) := ⟨by rw [HS.out, hd5]; simp [small7]; omega⟩
                have hor := or128 n bn (by omega) (by omega)
                have hpk : n * 128 + bn < 128 ^ (k + 1) := by rw [Nat.pow_succ]; omega
                have hn9 : n < 268435456 := by omega
                have HPK := Aside0.mk hpk
                have hb128 : bn < 128 := by omega
                clear hd5 h8k eb hb hpow hn hpk
                go_wp2_with fail
                refine (refuse_no 4 _).mono ?_
                rintro e W ⟨rfl, rfl⟩
                go_wp2_with fail
                have hw : wrap64 (bn : Int) = (bn : Int) := wrap64_id (by omega) (by omega)
                refine ⟨⟨k + 1, n * 128 + bn, by go_num, by first | (rw [hw, hor]; done) | go_num, by omega, trivial, HA2, HS2, HPK.out⟩, ?_⟩
                simp [intOf]
                omega
              · have d5 : decide ((127 : Int) < b) = true := by simp; omega
                have hr2 := HR.out
                rw [if_neg (by rw [HS.out, hd5]; simp [small7]; omega)] at hr2
                subst hr2
                clear hd5 h8k eb hb hpow hn
                go_wp2_with fail
                refine (refuse_yes 4 _).mono ?_
                rintro e W ⟨rfl, rfl⟩
                go_wp2_with fail
                exact ⟨rfl, HB1.out, rfl⟩
            · obtain rfl : k = 4 := by omega
              have hz : S4.drop 4 = [] := List.drop_eq_nil_of_le (by rw [HL4.out]; exact Nat.le_refl _)
              have hac : acc S4 0 = n := by rw [HA.out, hz]; rfl
              have hsm : small7 S4 = true := by rw [HS.out, hz]; rfl
              have hr2 := HR.out
              rw [if_pos hsm, hac] at hr2
              have hnl : n < 268435456 := by simpa using hn
              clear hz hac hsm hpow hn HA HS HR HC5
              by_cases hq : B.length - 9 < n
              · rw [if_pos hq] at hr2
                subst hr2
                have hw9 : wrap64 ((B.length : Int) - 9) = (B.length : Int) - 9 := wrap64_id (by omega) (by omega)
                have d6 : decide ((B.length : Int) - 9 < (n : Int)) = true := by simp; omega
                go_wp2_with fail
                refine (refuse_yes 3 _).mono ?_
                rintro e W ⟨rfl, rfl⟩
                go_wp2_with fail
                exact ⟨rfl, HB1.out, rfl⟩
              · rw [if_neg hq] at hr2
                have hw9 : wrap64 ((B.length : Int) - 9) = (B.length : Int) - 9 := wrap64_id (by omega) (by omega)
                have d6 : decide ((B.length : Int) - 9 < (n : Int)) = false := by simp; omega
                have hw10 : wrap64 (9 + (n : Int)) = 9 + (n : Int) := wrap64_id (by omega) (by omega)
                obtain ⟨A9, hA9⟩ : ∃ A9, A9 = (if c = 9 then some ad else (some ad).map (·.add (9 * 1))) := ⟨_, rfl⟩
                have hs9 : ∀ W : World, (Instr.slice 27 (.slice (some ad) B.length c) (some (.int .i64 9)) (some (.int .i64 (9 + (n : Int)))) none).run Tryd.prog W = .ok (.slice A9 n (c - 9)) W := fun W => by
                  have := cut_mid (P := Tryd.prog) 27 5 .i64 .i64 Tryd.underlying27 (i := _) rfl 1 rfl (some ad) B.length c 9 (9 + (n : Int)) (by omega) (by omega) (by omega) hc W
                  rw [show (9 + (n : Int)).toNat - (9 : Int).toNat = n by omega] at this
                  rw [hA9]
                  simpa using this
                have hlb : (body B n).length = n := by unfold body; rw [List.length_drop, List.length_take]; omega
                have hC9 : Kd.C (Kd.int .u8) wr A9 (body B n).length (body B n) := by
                  have := Kd.C_drop (m := 9) (c := c) (Kd.C_take HC1.out (m := 9 + n) (by omega)) (by rw [List.length_take]; omega) (by rw [List.length_take]; omega)
                  rw [hA9]
                  exact this
                have h8b : is8 (body B n) := fun x hx => H8.out x (List.mem_of_mem_take (List.mem_of_mem_drop hx))
                have hst := Strip_any A9 (c - 9) (body B n) wr hC9 (by omega) h8b (by omega)
                rw [hlb] at hst
                obtain ⟨st, hst'⟩ : ∃ st, fStrip (body B n) = st := ⟨_, rfl⟩
                have h8p : is8 st.1 := by
                  rw [← hst']
                  unfold fStrip
                  split
                  · exact strp_8 0 h8b
                  · intro x hx; cases hx
                have hlp : st.1.length ≤ n := by
                  rw [← hst']
                  unfold fStrip
                  have := strp_len (body B n) 0
                  split
                  · dsimp only; omega
                  · simp
                rw [hst'] at hst hr2
                obtain ⟨p, pe⟩ := st
                dsimp only at hst hr2 h8p hlp
                have HR2 := Aside0.mk hr2
                have HST := Aside0.mk hst
                have H8P := Aside0.mk h8p
                clear hA9 hlb hC9 h8b hst hst' h8p hr2
                go_wp2_with fail
                refine (refuse_no 3 _).mono ?_
                rintro e W2 ⟨rfl, rfl⟩
                go_wp2_with fail
                refine HST.out.mono ?_
                rintro e W3 ⟨v, rfl, hrv, hbv⟩
                obtain ⟨Ap, cp, rfl, hcp, hCp⟩ := Kd.R_reads hrv
                have hpar := parsed_any Ap cp p W3 hCp H8P.out (by omega) hcp
                have hb03 := HB1.out.trans (hbv.mono HB1.out.size)
                have hk3 := (hbv.block _ (lt_of_block HK1.out)).trans HK1.out
                have c43 : W3.cell? ⟨ad.block, ad.off + 4, none⟩ = some (.int .u8 y4) := (hbv.cell (World.block_lt_of_cell? _ _ c4)).trans c4
                have hw8 : wrap64 (8 * (p.length : Int)) = 8 * (p.length : Int) := wrap64_id (by omega) (by omega)
                have d8 : decide ((1048576 : Int) < 8 * (p.length : Int)) = false := by simp; omega
                have HPAR := Aside0.mk hpar
                have HB3 := Aside0.mk hb03
                have HK3 := Aside0.mk hk3
                clear hrv hbv hCp hcp hpar hb03 hk3 HST hs9 hs5 hs3 hcs3 c3 c4
                by_cases hpe : pe = 0
                · by_cases hlt2 : p.length < n
                  · have dl : decide ((p.length : Int) < (n : Int)) = true := by simp; omega
                    rcases hy34 with rfl | rfl
                    · have hr3 := HR2.out
                      rw [if_neg (fun q => by have := q.2; simp [hlt2] at this)] at hr3
                      subst hr3
                      subst hpe
                      go_wp2_with fail
                      refine (refuse_yes 4 _).mono ?_
                      rintro e W ⟨rfl, rfl⟩
                      go_wp2_with fail
                      exact ⟨rfl, HB3.out, rfl⟩
                    · have hr3 := HR2.out
                      rw [if_pos ⟨hpe, by simp [hlt2]⟩] at hr3
                      have HR3 := Aside0.mk hr3
                      subst hpe
                      clear hr3
                      go_wp2_with fail
                      refine (refuse_no 4 _).mono ?_
                      rintro e W4 ⟨rfl, rfl⟩
                      go_wp2_with fail
                      refine HPAR.out.mono ?_
                      rintro e W5 ⟨hb5, hp5⟩
                      cases hfp : fParse p with
                      | none =>
                        rw [hfp] at hp5
                        have hr4 := HR3.out
                        rw [hfp] at hr4
                        obtain rfl := hp5
                        subst hr4
                        have HB5 := Aside0.mk (HB3.out.trans (hb5.mono HB3.out.size))
                        clear hb5 hfp
                        go_wp2_with fail
                        exact ⟨rfl, HB5.out, rfl⟩
                      | some t =>
                        rw [hfp] at hp5
                        have hr4 := HR3.out
                        rw [hfp] at hr4
                        obtain ⟨v, rfl, hrow⟩ := hp5
                        subst hr4
                        have hb05 := HB3.out.trans (hb5.mono HB3.out.size)
                        have HK5 := Aside0.mk ((hb5.block _ (lt_of_block HK3.out)).trans HK3.out)
                        have HROW := Aside0.mk (hrow.less HB3.out.size)
                        have HB5 := Aside0.mk hb05
                        obtain ⟨A6, c6, rfl, -⟩ : ∃ A6 c6, v = .slice A6 t.fs.length c6 ∧ True := by
                          obtain ⟨A6, c6, e⟩ := RowV.slice hrow
                          exact ⟨A6, c6, e, trivial⟩
                        obtain ⟨ts, tu, tf⟩ := t
                        dsimp only at *
                        clear hb5 hfp hrow hb05
                        go_wp2_with (refine wpList_store_row rfl _ _ _ rfl w.heap.size #[.int .i64 ts, .int .i64 tu, .slice A6 tf.length c6] rfl rfl _ _ HK5.out (by kernel_rfl) rfl (by kernel_rfl) ?_)
                        refine bodyPost_ret (results_ct rfl _ _ w.heap.size _ #[.int .i64 ts, .int .i64 tu, .slice A6 tf.length c6] (0, 0) _ rfl (setRow_heap _ _ _ _ _ _ HK5.out) Tryd.underlying24 rfl (by kernel_rfl)) rfl ?_
                        refine ⟨HB5.out.trans ((fr_setRow _ _ _).to_below HB5.out.size (fun j hj => by subst hj; exact Nat.le_refl _)), _, ?_, RowV.fr HROW.out (fr_setRow _ _ _) (fun j cs hj _ he => by subst hj; rw [HK5.out] at he; cases he)⟩
                        first | rfl | (congr 1; simp; done) | (simp; omega)
                  · have dl : decide ((p.length : Int) < (n : Int)) = false := by simp; omega
                    rcases hy34 with rfl | rfl
                    · have hr3 := HR2.out
                      rw [if_pos ⟨hpe, by simp [hlt2]⟩] at hr3
                      have HR3 := Aside0.mk hr3
                      subst hpe
                      clear hr3
                      go_wp2_with fail
                      refine (refuse_no 4 _).mono ?_
                      rintro e W4 ⟨rfl, rfl⟩
                      go_wp2_with fail
                      refine HPAR.out.mono ?_
                      rintro e W5 ⟨hb5, hp5⟩
                      cases hfp : fParse p with
                      | none =>
                        rw [hfp] at hp5
                        have hr4 := HR3.out
                        rw [hfp] at hr4
                        obtain rfl := hp5
                        subst hr4
                        have HB5 := Aside0.mk (HB3.out.trans (hb5.mono HB3.out.size))
                        clear hb5 hfp
                        go_wp2_with fail
                        exact ⟨rfl, HB5.out, rfl⟩
                      | some t =>
                        rw [hfp] at hp5
                        have hr4 := HR3.out
                        rw [hfp] at hr4
                        obtain ⟨v, rfl, hrow⟩ := hp5
                        subst hr4
                        have hb05 := HB3.out.trans (hb5.mono HB3.out.size)
                        have HK5 := Aside0.mk ((hb5.block _ (lt_of_block HK3.out)).trans HK3.out)
                        have HROW := Aside0.mk (hrow.less HB3.out.size)
                        have HB5 := Aside0.mk hb05
                        obtain ⟨A6, c6, rfl, -⟩ : ∃ A6 c6, v = .slice A6 t.fs.length c6 ∧ True := by
                          obtain ⟨A6, c6, e⟩ := RowV.slice hrow
                          exact ⟨A6, c6, e, trivial⟩
                        obtain ⟨ts, tu, tf⟩ := t
                        dsimp only at *
                        clear hb5 hfp hrow hb05
                        go_wp2_with (refine wpList_store_row rfl _ _ _ rfl w.heap.size #[.int .i64 ts, .int .i64 tu, .slice A6 tf.length c6] rfl rfl _ _ HK5.out (by kernel_rfl) rfl (by kernel_rfl) ?_)
                        refine bodyPost_ret (results_ct rfl _ _ w.heap.size _ #[.int .i64 ts, .int .i64 tu, .slice A6 tf.length c6] (0, 0) _ rfl (setRow_heap _ _ _ _ _ _ HK5.out) Tryd.underlying24 rfl (by kernel_rfl)) rfl ?_
                        refine ⟨HB5.out.trans ((fr_setRow _ _ _).to_below HB5.out.size (fun j hj => by subst hj; exact Nat.le_refl _)), _, ?_, RowV.fr HROW.out (fr_setRow _ _ _) (fun j cs hj _ he => by subst hj; rw [HK5.out] at he; cases he)⟩
                        first | rfl | (congr 1; simp; done) | (simp; omega)
                    · have hr3 := HR2.out
                      rw [if_neg (fun q => by have := q.2; simp [hlt2] at this)] at hr3
                      subst hr3
                      subst hpe
                      go_wp2_with fail
                      refine (refuse_yes 4 _).mono ?_
                      rintro e W ⟨rfl, rfl⟩
                      go_wp2_with fail
                      exact ⟨rfl, HB3.out, rfl⟩
                · have hr3 := HR2.out
                  rw [if_neg (fun q => hpe q.1)] at hr3
                  have qpe : (pe != 0) = true := bne_iff_ne.2 hpe
                  subst hr3
                  go_wp2_with fail
                  refine (refuse_yes 4 _).mono ?_
                  rintro e W ⟨rfl, rfl⟩
                  go_wp2_with fail
                  exact ⟨rfl, HB3.out, rfl⟩
        · rw [if_neg (fun h => hy4 h.2)] at hr
          subst hr
          subst hy3
          have d4 : decide (1 < y4) = true := by simp; omega
          go_enter Tryd.func43, Tryd.ntmps43
          go_wp2_with fail
          rw [← HW1.out]
          refine (refuse_no 3 w1).mono ?_
          rintro e W ⟨rfl, rfl⟩
          go_wp2_with fail
          refine (refuse_no 8 _).mono ?_
          rintro e W ⟨rfl, rfl⟩
          go_wp2_with fail
          refine (refuse_yes 4 _).mono ?_
          rintro e W ⟨rfl, rfl⟩
          go_wp2_with fail
          exact ⟨rfl, HB1.out, rfl⟩
      · rw [if_neg (fun h => hy3 h.1)] at hr
        subst hr
        have d3 : (y3 != 1) = true := bne_iff_ne.2 hy3
        go_enter Tryd.func43, Tryd.ntmps43
        go_wp2_with fail
        rw [← HW1.out]
        refine (refuse_no 3 w1).mono ?_
        rintro e W ⟨rfl, rfl⟩
        go_wp2_with fail
        refine (refuse_no 8 _).mono ?_
        rintro e W ⟨rfl, rfl⟩
        go_wp2_with fail
        refine (refuse_yes 4 _).mono ?_
        rintro e W ⟨rfl, rfl⟩
        go_wp2_with fail
        exact ⟨rfl, HB1.out, rfl⟩
    · rw [if_neg hsht] at hr
      subst hr
      have q : (sht.toList == ([83, 72, 84] : List UInt8)) = false := beq_eq_false_iff_ne.2 hsht
      have q2 : (sht.toList != ([83, 72, 84] : List UInt8)) = true := bne_iff_ne.2 hsht
      go_enter Tryd.func43, Tryd.ntmps43
      go_wp2_with fail
      rw [← HW1.out]
      refine (refuse_no 3 w1).mono ?_
      rintro e W ⟨rfl, rfl⟩
      go_wp2_with fail
      refine (refuse_yes 8 _).mono ?_
      rintro e W ⟨rfl, rfl⟩
      go_wp2_with fail
      exact ⟨rfl, HB1.out, rfl⟩
end Go.Proofs.YthlmnnjbpikijaaDoor.P
end
section
namespace Go.Proofs.YthlmnnjbpikijaaDoor.P
open Go.RowKit Go.Shelf Go.Proofs.YthlmnnjbpikijaaDoor.Bits Go.Proofs.YthlmnnjbpikijaaDoorW.PrintWords Go.Proofs.YthlmnnjbpikijaaDoorW.PrintLast Go.Proofs.YthlmnnjbpikijaaDoorW.PrintMore
set_option linter.unusedVariables false
set_option linter.unusedSimpArgs false
attribute [local go_sem ↓] Go.wp_at_zero Go.wp_at_succ
theorem alloc2_old (w : World) (o1 o2 : Obj) : ((w.alloc o1).alloc o2).heap[w.heap.size]? = some o1 := by
  rw [Below.heap_alloc _ _ _ (lt_of_block (World.alloc_heap_new w o1))]; exact World.alloc_heap_new w o1
theorem alloc2_new (w : World) (o1 o2 : Obj) : ((w.alloc o1).alloc o2).heap[w.heap.size + 1]? = some o2 := by
  have := World.alloc_heap_new (w.alloc o1) o2
  simpa using this
theorem run_loadVar_int {P : Program} (w : World) (a : Addr) (ty : TypeId) (k : IntKind) (n : Int) (hu : P.underlying ty = some (.int k)) (hc : w.cell? a = some (.int k n)) : (loadVar ty a).run P w = .ok (.int k n) w := by
  simp [loadVar, isAgg, run_underlying hu, go_sem, hc]
theorem results_cti {P : Program} {fn : Func} {p u q : Tmp} {ty ty2 : TypeId} (h : fn.results = #[.cell p ty, .tmp u, .cell q ty2]) (tmps : Array Value) (w : World) (g : Nat) (t : TypeId) (cs : Array Value) (fr : Nat × Nat) (d : TypeDesc)
    (hp : tmps.getD p undef = .pointer (some ⟨g, 0, none⟩)) (hg : w.heap[g]? = some (.cells cs t fr))
    (hu : P.underlying ty = some d) (hd : (match d with | .struct _ | .array _ _ => true | _ => false) = true) (hi : (P.info? ty).map (·.size) = some cs.size)
    (a : Addr) (k : IntKind) (n : Int) (hq : tmps.getD q undef = .pointer (some a)) (hc : w.cell? a = some (.int k n)) (hu2 : P.underlying ty2 = some (.int k)) :
    (results fn tmps).run P w = .ok (.tuple #[.agg cs, tmps.getD u undef, .int k n]) w := by
  have hp' : tmps[p]?.getD undef = .pointer (some ⟨g, 0, none⟩) := by simpa using hp
  have hq' : tmps[q]?.getD undef = .pointer (some a) := by simpa using hq
  simp [results, h, hp', hq', asAddr, run_loadVar_row w g t ty cs fr d hg hu hd hi, run_loadVar_int w a ty2 k n hu2 hc]
/-- What tag.Read gives. -/
def fReadT (B : List Int) : TG × Int × Int := match fRd B with | .ok (t, n) => (t, (n : Int), 0) | .error e => (TG0, 0, e)
def ReadTPost (w : World) (r : TG × Int × Int) (e : Ending) (w' : World) : Prop :=
  ∃ v, e = .returned (.tuple #[.agg #[.int .i64 r.1.skip, .int .i64 r.1.cut, v], .int .i64 r.2.1, .int .i64 r.2.2]) ∧ RowE w' w.heap.size v r.1.fs ∧ Below w.heap.size w w'
set_option maxHeartbeats 8000000 in
set_option maxRecDepth 100000 in
theorem TRead_any (A : Option Addr) (c : Nat) (B : List Int) (w : World) (hC : Kd.C (Kd.int .u8) w A B.length B) (h8 : is8 B) (hB : B.length ≤ 130000) (hc : B.length ≤ c) :
    Calls Tryd.prog 18 #[.slice A B.length c] w (ReadTPost w (fReadT B)) := by
  have hk4 : ((w.alloc (.cells #[.int .i64 0, .int .i64 0, .slice none 0 0] 24)).alloc (.cells #[.int .i64 0] 28)).heap[w.heap.size]? = some tag0' := alloc2_old w _ _
  have hk6 : ((w.alloc (.cells #[.int .i64 0, .int .i64 0, .slice none 0 0] 24)).alloc (.cells #[.int .i64 0] 28)).heap[w.heap.size + 1]? = some (.cells #[.int .i64 0] 28 (0, 0)) := alloc2_new w _ _
  have hb0 : Below w.heap.size w ((w.alloc (.cells #[.int .i64 0, .int .i64 0, .slice none 0 0] 24)).alloc (.cells #[.int .i64 0] 28)) := below_alloc (below_alloc (Below.refl _ _) _) _
  have hread := read_any A c B ((w.alloc (.cells #[.int .i64 0, .int .i64 0, .slice none 0 0] 24)).alloc (.cells #[.int .i64 0] 28)) (Kd.C_below hC hb0) h8 hB hc
  have HB0 := Aside0.mk hb0
  have HK4 := Aside0.mk hk4
  have HK6 := Aside0.mk hk6
  obtain ⟨r, hr⟩ : ∃ r, fReadT B = r := ⟨_, rfl⟩
  rw [hr]
  unfold fReadT at hr
  clear hC h8 hk4 hk6 hb0
  cases hrd : fRd B with
  | ok tn =>
    obtain ⟨t, n⟩ := tn
    rw [hrd] at hread hr
    dsimp only at hr
    subst hr
    have HRE : Aside0 (Calls Tryd.prog 43 #[.slice A B.length c] ((w.alloc (.cells #[.int .i64 0, .int .i64 0, .slice none 0 0] 24)).alloc (.cells #[.int .i64 0] 28)) fun e w' => Below ((w.alloc (.cells #[.int .i64 0, .int .i64 0, .slice none 0 0] 24)).alloc (.cells #[.int .i64 0] 28)).heap.size ((w.alloc (.cells #[.int .i64 0, .int .i64 0, .slice none 0 0] 24)).alloc (.cells #[.int .i64 0] 28)) w' ∧ ∃ v, e = .returned (.tuple #[.agg #[.int .i64 t.skip, .int .i64 t.cut, v], .int .i64 (n : Int)]) ∧ RowE w' ((w.alloc (.cells #[.int .i64 0, .int .i64 0, .slice none 0 0] 24)).alloc (.cells #[.int .i64 0] 28)).heap.size v t.fs) := ⟨hread.mono fun e w' q => q⟩
    clear hread hrd
    go_enter_defers Tryd.func18, Tryd.ntmps18
    go_wp2_with fail
    refine HRE.out.mono ?_
    rintro e w1 ⟨hb, v, rfl, hrow⟩
    obtain ⟨A6, c6, rfl⟩ := RowV.slice hrow
    obtain ⟨ts, tu, tf⟩ := t
    dsimp only at *
    have hk41 := blk_fr HK4.out (Fr.below hb (fun _ => False)) (fun h => h)
    have hk61 := blk_fr HK6.out (Fr.below hb (fun _ => False)) (fun h => h)
    have hb1 := HB0.out.trans (hb.mono HB0.out.size)
    have hk42 : (w1.setRow w.heap.size #[.int .i64 ts, .int .i64 tu, .slice A6 tf.length c6]).heap[w.heap.size]? = some (.cells #[.int .i64 ts, .int .i64 tu, .slice A6 tf.length c6] 24 (0, 0)) := setRow_heap _ _ _ _ _ _ hk41
    have hk43 : ((w1.setRow w.heap.size #[.int .i64 ts, .int .i64 tu, .slice A6 tf.length c6]).setRow w.heap.size #[.int .i64 ts, .int .i64 tu, .slice A6 tf.length c6]).heap[w.heap.size]? = some (.cells #[.int .i64 ts, .int .i64 tu, .slice A6 tf.length c6] 24 (0, 0)) := setRow_heap _ _ _ _ _ _ hk42
    have hk63 : ((w1.setRow w.heap.size #[.int .i64 ts, .int .i64 tu, .slice A6 tf.length c6]).setRow w.heap.size #[.int .i64 ts, .int .i64 tu, .slice A6 tf.length c6]).heap[w.heap.size + 1]? = some (.cells #[.int .i64 0] 28 (0, 0)) := (setRow_other _ _ _ _ (by omega)).trans ((setRow_other _ _ _ _ (by omega)).trans hk61)
    have z0 : (w1.setRow w.heap.size #[.int .i64 ts, .int .i64 tu, .slice A6 tf.length c6]).cell? ⟨w.heap.size, 0, none⟩ = some (.int .i64 ts) := by rw [cell_of_row _ _ _ _ _ _ hk42]; rfl
    have z1 : (w1.setRow w.heap.size #[.int .i64 ts, .int .i64 tu, .slice A6 tf.length c6]).cell? ⟨w.heap.size, 1, none⟩ = some (.int .i64 tu) := by rw [cell_of_row _ _ _ _ _ _ hk42]; rfl
    have z2 : (w1.setRow w.heap.size #[.int .i64 ts, .int .i64 tu, .slice A6 tf.length c6]).cell? ⟨w.heap.size, 2, none⟩ = some (.slice A6 tf.length c6) := by rw [cell_of_row _ _ _ _ _ _ hk42]; rfl
    have c60 : ((w1.setRow w.heap.size #[.int .i64 ts, .int .i64 tu, .slice A6 tf.length c6]).setRow w.heap.size #[.int .i64 ts, .int .i64 tu, .slice A6 tf.length c6]).cell? ⟨w.heap.size + 1, 0, none⟩ = some (.int .i64 0) := by rw [cell_of_row _ _ _ _ _ _ hk63]; rfl
    have f60 : ((w1.setRow w.heap.size #[.int .i64 ts, .int .i64 tu, .slice A6 tf.length c6]).setRow w.heap.size #[.int .i64 ts, .int .i64 tu, .slice A6 tf.length c6]).frozen? ⟨w.heap.size + 1, 0, none⟩ = false := blk_frozen hk63 0
    have HK4F : Aside0 ((((w1.setRow w.heap.size #[.int .i64 ts, .int .i64 tu, .slice A6 tf.length c6]).setRow w.heap.size #[.int .i64 ts, .int .i64 tu, .slice A6 tf.length c6]).setCell ⟨w.heap.size + 1, 0, none⟩ (.int .i64 0)).heap[w.heap.size]? = some (.cells #[.int .i64 ts, .int .i64 tu, .slice A6 tf.length c6] 24 (0, 0))) := ⟨by rw [heap_setCell_other _ _ _ _ (show w.heap.size ≠ w.heap.size + 1 by omega)]; exact hk43⟩
    have HK6F : Aside0 ((((w1.setRow w.heap.size #[.int .i64 ts, .int .i64 tu, .slice A6 tf.length c6]).setRow w.heap.size #[.int .i64 ts, .int .i64 tu, .slice A6 tf.length c6]).setCell ⟨w.heap.size + 1, 0, none⟩ (.int .i64 0)).heap[w.heap.size + 1]? = some (.cells #[.int .i64 0] 28 (0, 0))) := ⟨by rw [heap_setCell_same _ _ _ _ _ _ hk63]; rfl⟩
    have hfr : Fr (fun k => k = w.heap.size ∨ k = w.heap.size + 1) w1 (((w1.setRow w.heap.size #[.int .i64 ts, .int .i64 tu, .slice A6 tf.length c6]).setRow w.heap.size #[.int .i64 ts, .int .i64 tu, .slice A6 tf.length c6]).setCell ⟨w.heap.size + 1, 0, none⟩ (.int .i64 0)) :=
      Fr.setCell (((fr_setRow _ _ _).mono (fun k _ h => .inl h)).trans ((fr_setRow _ _ _).mono (fun k _ h => .inl h))) (p := ⟨w.heap.size + 1, 0, none⟩) (fun _ => .inr rfl) _
    have HB : Aside0 (Below w.heap.size w (((w1.setRow w.heap.size #[.int .i64 ts, .int .i64 tu, .slice A6 tf.length c6]).setRow w.heap.size #[.int .i64 ts, .int .i64 tu, .slice A6 tf.length c6]).setCell ⟨w.heap.size + 1, 0, none⟩ (.int .i64 0))) := ⟨hb1.trans (hfr.to_below hb1.size (fun j hj => by omega))⟩
    have HROW := Aside0.mk (RowV.fr (base := w.heap.size) (hrow.less HB0.out.size) hfr (fun j cs hj _ he => by
      rcases hj with rfl | rfl
      · rw [hk41] at he; cases he
      · rw [hk61] at he; cases he))
    have HKA := Aside0.mk hk41
    have HKB := Aside0.mk hk42
    clear hk41 hk61 hb1 hk42 hk43 hk63 hfr hrow hb
    go_wp2_with (first
      | (refine wpList_store_row rfl _ _ _ rfl w.heap.size #[.int .i64 ts, .int .i64 tu, .slice A6 tf.length c6] rfl rfl _ _ HKA.out (by kernel_rfl) rfl (by kernel_rfl) ?_)
      | (refine wpList_store_row rfl _ _ _ rfl w.heap.size #[.int .i64 ts, .int .i64 tu, .slice A6 tf.length c6] rfl rfl _ _ HKB.out (by kernel_rfl) rfl (by kernel_rfl) ?_))
    refine leaves_cons (f := 42) (args := #[.pointer (some ⟨w.heap.size + 1, 0, none⟩)]) (by simp) (by simp [go_sem]) ?_
    refine (caught_idle ⟨w.heap.size + 1, 0, none⟩ _).mono ?_
    rintro e u' w'' ⟨rfl, rfl, rfl⟩
    refine ⟨_, results_cti rfl _ _ w.heap.size _ _ _ _ rfl HK4F.out Tryd.underlying24 rfl (by kernel_rfl) ⟨w.heap.size + 1, 0, none⟩ .i64 0 rfl (cell_of_one HK6F.out) Tryd.underlying28, ?_⟩
    exact ⟨_, rfl, HROW.out, HB.out⟩
  | error er =>
    rw [hrd] at hread hr
    dsimp only at hr
    subst hr
    have HRE : Aside0 (Calls Tryd.prog 43 #[.slice A B.length c] ((w.alloc (.cells #[.int .i64 0, .int .i64 0, .slice none 0 0] 24)).alloc (.cells #[.int .i64 0] 28)) fun e w' => Below ((w.alloc (.cells #[.int .i64 0, .int .i64 0, .slice none 0 0] 24)).alloc (.cells #[.int .i64 0] 28)).heap.size ((w.alloc (.cells #[.int .i64 0, .int .i64 0, .slice none 0 0] 24)).alloc (.cells #[.int .i64 0] 28)) w' ∧ e = gone er) := ⟨hread.mono fun e w' q => q⟩
    clear hread hrd
    go_enter_defers Tryd.func18, Tryd.ntmps18
    go_wp2_with fail
    refine HRE.out.mono ?_
    rintro e w1 ⟨hb, rfl⟩
    have hk41 := blk_fr HK4.out (Fr.below hb (fun _ => False)) (fun h => h)
    have hk61 := blk_fr HK6.out (Fr.below hb (fun _ => False)) (fun h => h)
    have hb1 := HB0.out.trans (hb.mono HB0.out.size)
    have HK4F : Aside0 ((w1.setCell ⟨w.heap.size + 1, 0, none⟩ (.int .i64 er)).heap[w.heap.size]? = some tag0') := ⟨by rw [heap_setCell_other _ _ _ _ (show w.heap.size ≠ w.heap.size + 1 by omega)]; exact hk41⟩
    have HK6F : Aside0 ((w1.setCell ⟨w.heap.size + 1, 0, none⟩ (.int .i64 er)).heap[w.heap.size + 1]? = some (.cells #[.int .i64 er] 28 (0, 0))) := ⟨by rw [heap_setCell_same _ _ _ _ _ _ hk61]; rfl⟩
    have HK61 := Aside0.mk hk61
    have HB : Aside0 (Below w.heap.size w (w1.setCell ⟨w.heap.size + 1, 0, none⟩ (.int .i64 er))) := ⟨hb1.trans ((Fr.setCell (S := fun k => k = w.heap.size + 1) (Fr.refl _ _) (p := ⟨w.heap.size + 1, 0, none⟩) (fun _ => rfl) _).to_below hb1.size (fun j hj => by omega))⟩
    clear hk41 hk61 hb1 hb
    go_wp2_with fail
    refine leaves_cons (f := 42) (args := #[.pointer (some ⟨w.heap.size + 1, 0, none⟩)]) (by simp) (by simp [go_sem]) ?_
    refine (caught_panic ⟨w.heap.size + 1, 0, none⟩ 0 er [] _ (cell_of_one HK61.out) (blk_frozen HK61.out 0)).mono ?_
    rintro e u' w'' ⟨rfl, rfl, rfl⟩
    refine ⟨_, results_cti rfl _ _ w.heap.size _ _ _ _ rfl HK4F.out Tryd.underlying24 rfl (by kernel_rfl) ⟨w.heap.size + 1, 0, none⟩ .i64 er rfl (cell_of_one HK6F.out) Tryd.underlying28, ?_⟩
    exact ⟨_, rfl, World.ownsRow_nil _ w.heap.size _ _, HB.out⟩
end Go.Proofs.YthlmnnjbpikijaaDoor.P
end
section
namespace Go.Proofs.YthlmnnjbpikijaaDoor.P
open Go.RowKit Go.Shelf Go.Proofs.YthlmnnjbpikijaaDoor.Bits Go.Proofs.YthlmnnjbpikijaaDoorW.PrintWords Go.Proofs.YthlmnnjbpikijaaDoorW.PrintLast Go.Proofs.YthlmnnjbpikijaaDoorW.PrintMore
set_option linter.unusedVariables false
set_option linter.unusedSimpArgs false
theorem rd_nat (x : List Int) (j : Nat) : rd x (j : Int) = x.getD j 0 := by unfold rd; rw [Int.toNat_natCast]
end Go.Proofs.YthlmnnjbpikijaaDoor.P
end
