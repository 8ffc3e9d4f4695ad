/- The walks of shawmlaw05.RiceFolds, RiceCosts; the arguments of chapter 5, opened. Two writers beside each other; the walk of shawmlaw05.RicePuts. Two readers beside each other; the walk of shawmlaw05.RiceGets. append of lists of ints; the walk of shawmlaw05.RiceParts. Lists in parts (plain law); the contract of rice.Write. Lists that are read (plain law); the contracts of the reference's read and Read. -/
import Derived.Deep.RegionHeld3
import Derived.Test.YtjcijaojcgampaaGreatDoorZBa16
import Derived.Test.YtjcijaojcgampaaGreatDoorZBa18
import Derived.Test.YtjcijaojcgampaaGreatDoorZBa13
section
namespace Go.Proofs.YtjcijaojcgampaaGreatDoor.P
section
open Go.RowKit Go.Shelf Go.Proofs.YtjcijaojcgampaaGreatDoor.Bits Go.Proofs.YtjcijaojcgampaaGreatDoorW.PrintWords Go.Proofs.YtjcijaojcgampaaGreatDoorW.PrintLast Go.Proofs.YtjcijaojcgampaaGreatDoorW.PrintMore
set_option linter.unusedVariables false
set_option linter.unusedSimpArgs false
attribute [local go_sem ↓] Go.wp_at_zero Go.wp_at_succ
theorem unfold_fold {v : Int} (h : -2147483648 ≤ v ∧ v ≤ 2147483647) : fUnfold (foldI v) = (v, 0) := by
  have hb := foldI_bound h
  unfold fUnfold
  rw [if_neg (by omega)]
  unfold unfoldI foldI
  by_cases h0 : v < 0
  · rw [if_pos h0, if_pos (by omega)]
    congr 1
    omega
  · rw [if_neg h0, if_neg (by omega)]
    congr 1
    omega
end
section
open Go.ChangeShapes Go.WideShapes Go.ChangeAt Go.RowKit Go.Deep Go.Proofs.YtjcijaojcgampaaGreatDoor.Bits
open Go.Proofs.YtjcijaojcgampaaGreatDoorW.PrintWords
set_option linter.unusedVariables false
set_option linter.unusedSimpArgs false
variable {H : Type} {enc : TypeId × Value → H} {W : World} {base : Nat} {spare : Nat → Bool} {held : Bool}
/-- A slice of ints inside an argument. -/
theorem open_list {n : Nat} {v : Value} {y : DataW H × List MemPlace} (h : DataW.trod enc Tryz.prog W base spare held n 22 [v] = some y) (hw : ∀ m ∈ y.1.weights Tryz.prog 22, m ≤ reachBytes) :
    ∃ (A : Option Addr) (c : Nat) (B : List Int), v = .slice A B.length c ∧ Kd.C (Kd.int .i64) W A B.length B ∧ (∀ x ∈ B, -9223372036854775808 ≤ x ∧ x ≤ 9223372036854775807) ∧ B.length ≤ c ∧ B.length ≤ reachBytes := by
  have fin : ∀ (a0 : Option Addr) (len0 cap0 : Nat) (z0 : List Int), ((a0 = none ∧ len0 = 0 ∧ cap0 = 0 ∧ z0 = []) ∨ ∃ x, a0 = some x ∧ len0 ≤ cap0 ∧ cap0 ≤ maxLen ∧ z0.length = cap0 ∧ (∀ i, i < z0.length → W.cell? (x.add i) = some (.int .i64 (z0.getD i 0))) ∧ ∀ n ∈ z0, (Lit.int .i64 n).wf = true) → len0 ≤ reachBytes →
      ∃ (A : Option Addr) (c : Nat) (B : List Int), (.slice a0 len0 cap0 : Value) = .slice A B.length c ∧ Kd.C (Kd.int .i64) W A B.length B ∧ (∀ x ∈ B, -9223372036854775808 ≤ x ∧ x ≤ 9223372036854775807) ∧ B.length ≤ c ∧ B.length ≤ reachBytes := by
    intro a0 len0 cap0 z0 w0 hr
    obtain ⟨l0, rfl, hr0, hm0, hw0, hc0⟩ := ReadsInt.ofRowC w0
    have hC : Kd.C (Kd.int .i64) W a0 l0.length l0 := Kd.C_of_reads (d := (0 : Int)) (h1 := fun _ => rfl) hr0
    exact ⟨a0, cap0, l0, rfl, hC, fun b hb => wf64 (hw0 b hb), hc0, hr⟩
  rcases open_ints Tryz.underlying22 Tryz.underlying3 (by kernel_rfl) h with ⟨hcs, _⟩ | ⟨x, l, c, zs, hcs, _, hl, hm, hz, hx, hcell, hwz⟩
  · cases hcs
    exact fin none 0 0 [] (.inl ⟨rfl, rfl, rfl, rfl⟩) (Nat.zero_le _)
  · cases hcs
    have hlz : l ≤ zs.length := by
      rw [hz]
      split
      · exact hl
      · exact Nat.le_refl _
    have hlen : l ≤ reachBytes := by
      subst hx
      have h1 := hw (((lits (H := H) .i64 (zs.take l)).length + (lits (H := H) .i64 (zs.drop l)).length) * Tryz.prog.bytesOf 3) (by
        unfold DataW.weights
        rw [Tryz.underlying22]
        exact List.mem_cons_self)
      have h2 : Tryz.prog.bytesOf 3 = 8 := by kernel_rfl
      rw [h2] at h1
      have h3 : (lits (H := H) .i64 (zs.take l)).length + (lits (H := H) .i64 (zs.drop l)).length = zs.length := by
        simp [lits]
        omega
      omega
    cases hsp : spare x.block with
    | true =>
      rw [hsp, if_pos rfl] at hz
      exact fin (some x) l c zs (.inr ⟨x, rfl, hl, hm, hz, hcell, hwz⟩) hlen
    | false =>
      rw [hsp, if_neg (by decide)] at hz
      obtain ⟨A, c', B, hv, r⟩ := fin (some x) l l zs (.inr ⟨x, rfl, Nat.le_refl _, Nat.le_trans hl hm, hz, hcell, hwz⟩) hlen
      injection hv with h1 h2 h3
      subst h1
      obtain ⟨r1, r2, r3, r4⟩ := r
      exact ⟨_, c, B, by rw [h2], r1, r2, by omega, r4⟩
end
end Go.Proofs.YtjcijaojcgampaaGreatDoor.P
end
section
namespace Go.Proofs.YtjcijaojcgampaaGreatDoor.P
open Go.RowKit Go.Shelf Go.Proofs.YtjcijaojcgampaaGreatDoor.Bits Go.Proofs.YtjcijaojcgampaaGreatDoorW.PrintWords Go.Proofs.YtjcijaojcgampaaGreatDoorW.PrintLast Go.Proofs.YtjcijaojcgampaaGreatDoorW.PrintMore
set_option linter.unusedVariables false
set_option linter.unusedSimpArgs false
attribute [local go_sem ↓] Go.wp_at_zero Go.wp_at_succ
/-- A writer at p has L, a writer of the reference at q has M; both are younger than w0, and share no memory. -/
structure TW (w0 W : World) (p q : Nat) (L M : List Int) : Prop where
  ex : ∃ S T : Nat → Prop, Wr W S p L ∧ RWr W T q M ∧ (∀ k, S k → ¬ T k) ∧ ¬ S q ∧ ¬ T p ∧ (∀ k, S k → w0.heap.size ≤ k) ∧ (∀ k, T k → w0.heap.size ≤ k)
  ne : p ≠ q
  hp : w0.heap.size ≤ p
  hq : w0.heap.size ≤ q
  low : Below w0.heap.size w0 W
theorem TW.below {w0 W W' : World} {p q : Nat} {L M : List Int} (h : TW w0 W p q L M) (hb : Below W.heap.size W W') : TW w0 W' p q L M := by
  obtain ⟨S, T, h1, h2, h3, h4, h5, h6, h7⟩ := h.ex
  exact ⟨⟨S, T, h1.below hb, h2.below hb, h3, h4, h5, h6, h7⟩, h.ne, h.hp, h.hq, h.low.trans (hb.mono h.low.size)⟩
theorem pk_len_le {L : List Int} (h : L.length ≤ 1048576) : (pk L).length ≤ 1000000000 := by rw [pk_length]; omega
end Go.Proofs.YtjcijaojcgampaaGreatDoor.P
end
section
namespace Go.Proofs.YtjcijaojcgampaaGreatDoor.P
open Go.RowKit Go.Shelf Go.Proofs.YtjcijaojcgampaaGreatDoor.Bits Go.Proofs.YtjcijaojcgampaaGreatDoorW.PrintWords Go.Proofs.YtjcijaojcgampaaGreatDoorW.PrintLast Go.Proofs.YtjcijaojcgampaaGreatDoorW.PrintMore
set_option linter.unusedVariables false
set_option linter.unusedSimpArgs false
attribute [local go_sem ↓] Go.wp_at_zero Go.wp_at_succ
/-- A reader at p and one of the reference at q stand in the bits L at a and at b; both are younger than w0. -/
structure TR (w0 W : World) (p q : Nat) (L : List Int) (a b : Nat) : Prop where
  ex : ∃ S T : Nat → Prop, Rd W S p L a ∧ RRd W T q L b ∧ ¬ S q ∧ ¬ T p
  ne : p ≠ q
  hp : w0.heap.size ≤ p
  hq : w0.heap.size ≤ q
  low : Below w0.heap.size w0 W
theorem TR.below {w0 W W' : World} {p q a b : Nat} {L : List Int} (h : TR w0 W p q L a b) (hb : Below W.heap.size W W') : TR w0 W' p q L a b := by
  obtain ⟨S, T, h1, h2, h3, h4⟩ := h.ex
  exact ⟨⟨S, T, h1.below hb, h2.below hb, h3, h4⟩, h.ne, h.hp, h.hq, h.low.trans (hb.mono h.low.size)⟩
theorem TR.bits {w0 W : World} {p q a b : Nat} {L : List Int} (h : TR w0 W p q L a b) : is01 L := by
  obtain ⟨S, T, h1, _⟩ := h.ex
  exact h1.bits
section
open Go.ChangeShapes Go.WideShapes Go.ChangeAt Go.RowKit Go.Deep
variable {H : Type} {enc : TypeId × Value → H} {W : World} {base : Nat} {spare : Nat → Bool} {held : Bool}
set_option maxRecDepth 100000 in

end
end Go.Proofs.YtjcijaojcgampaaGreatDoor.P
end
section
namespace Go.Proofs.YtjcijaojcgampaaGreatDoor.P
open Go.RowKit Go.Shelf Go.Proofs.YtjcijaojcgampaaGreatDoor.Bits Go.Proofs.YtjcijaojcgampaaGreatDoorW.PrintWords Go.Proofs.YtjcijaojcgampaaGreatDoorW.PrintLast Go.Proofs.YtjcijaojcgampaaGreatDoorW.PrintMore
set_option linter.unusedVariables false
set_option linter.unusedSimpArgs false
attribute [local go_sem ↓] Go.wp_at_zero Go.wp_at_succ
/-- A row of ints of one's own, in blocks of S. -/
abbrev RI (S : Nat → Prop) (w : World) (v : Value) (B : List Int) : Prop := Kd.R (Kd.int .i64) 3 w 0 S v B
end Go.Proofs.YtjcijaojcgampaaGreatDoor.P
end
section
namespace Go.Proofs.YtjcijaojcgampaaGreatDoor.P
open Go.RowKit Go.Shelf Go.Proofs.YtjcijaojcgampaaGreatDoor.Bits Go.Proofs.YtjcijaojcgampaaGreatDoorW.PrintWords Go.Proofs.YtjcijaojcgampaaGreatDoorW.PrintLast Go.Proofs.YtjcijaojcgampaaGreatDoorW.PrintMore
set_option linter.unusedVariables false
set_option linter.unusedSimpArgs false
attribute [local go_sem ↓] Go.wp_at_zero Go.wp_at_succ
def wordsBits (x : List Int) (k : Nat) : List Int := x.flatMap fun v => word v k
def partBits (x : List Int) : List Int := numb (bestW x).1 4 ++ wordsBits x (bestW x).1.toNat
def partsBits (l : List Int) (p : Nat) (is : List Nat) : List Int := is.flatMap fun i => partBits (partL l p i)
def listBits (l : List Int) (p : Nat) : List Int := numb (p : Int) 2 ++ partsBits l p (List.range' 0 (2 ^ p))
def wordsStep (L x : List Int) (k : Nat) : List Int := x.foldl (fun L v => (wRice L v k).2) L
def partStep (L x : List Int) : List Int := wordsStep (wPut L (bestW x).1 4).2 x (bestW x).1.toNat
def partsStep (l : List Int) (p : Nat) (L : List Int) (is : List Nat) : List Int := is.foldl (fun L i => partStep L (partL l p i)) L
def fWrite (L l : List Int) : Int × List Int := if chk l ≠ 0 then (chk l, L) else if 1048576 < (L.length : Int) + (orderW l).2 then (2, L) else (0, L ++ listBits l (orderW l).1.toNat)
theorem wRice_le {L : List Int} {v : Int} (hv : -2147483648 ≤ v ∧ v ≤ 2147483647) (k : Nat) (h : L.length ≤ 1048576) : (wRice L v k).2.length ≤ 1048576 := by
  unfold wRice
  split
  · exact h
  · have := word_length hv k
    rw [List.length_append]; omega
theorem wPut_le {L : List Int} (v n : Int) (h : L.length ≤ 1048576) : (wPut L v n).2.length ≤ 1048576 := by
  unfold wPut
  split
  · exact h
  · unfold wput putL
    dsimp only
    split
    · exact h
    · rw [List.length_append]; omega
theorem wordsStep_le (k : Nat) : ∀ {x L : List Int}, smallL x → L.length ≤ 1048576 → (wordsStep L x k).length ≤ 1048576
  | [], L, _, h => h
  | v :: x, L, hs, h => wordsStep_le k (x := x) (fun y hy => hs y (by simp [hy])) (wRice_le (hs v (by simp)) k h)
theorem partStep_le {x L : List Int} (hs : smallL x) (h : L.length ≤ 1048576) : (partStep L x).length ≤ 1048576 := wordsStep_le _ hs (wPut_le _ _ h)
theorem wordsStep_snoc (L x : List Int) (k : Nat) (v : Int) : wordsStep L (x ++ [v]) k = (wRice (wordsStep L x k) v k).2 := by unfold wordsStep; rw [List.foldl_append]; rfl
theorem partsStep_le {l : List Int} (hs : smallL l) (p : Nat) : ∀ {is : List Nat} {L : List Int}, L.length ≤ 1048576 → (partsStep l p L is).length ≤ 1048576
  | [], L, h => h
  | i :: is, L, h => partsStep_le hs p (is := is) (partStep_le (partL_small hs p i) h)
theorem partsStep_snoc (l : List Int) (p : Nat) (L : List Int) (is : List Nat) (i : Nat) : partsStep l p L (is ++ [i]) = partStep (partsStep l p L is) (partL l p i) := by unfold partsStep; rw [List.foldl_append]; rfl
theorem words_length {x : List Int} (hs : smallL x) {k : Nat} : ((wordsBits x k).length : Int) = sumW x k := by
  induction x with
  | nil => simp [wordsBits, sumW]
  | cons v x ih =>
    have h1 := word_length (hs v (by simp)) k
    have h2 := ih (fun y hy => hs y (by simp [hy]))
    rw [sumW_cons]
    unfold wordsBits at *
    rw [List.flatMap_cons, List.length_append]
    omega
theorem bestW_val {x : List Int} : (bestW x).2 = sumW x (bestW x).1.toNat := by
  unfold bestW
  refine iter_inv (fun s : Int × Int => s.2 = sumW x s.1.toNat) 14 1 _ (fun s j _ _ hs => ?_) rfl
  unfold bstep
  split
  · simp
  · exact hs
theorem part_length {x : List Int} (hs : smallL x) : ((partBits x).length : Int) = costP x := by
  have := words_length hs (k := (bestW x).1.toNat)
  unfold partBits costP
  rw [List.length_append, numb_length, bestW_val]
  omega
theorem words_fit (k : Nat) (hk : k ≤ 14) : ∀ {x L : List Int}, smallL x → (L.length : Int) + sumW x k ≤ 1048576 → wordsStep L x k = L ++ wordsBits x k
  | [], L, _, _ => by simp [wordsStep, wordsBits]
  | v :: x, L, hs, h => by
    rw [sumW_cons] at h
    have hx : smallL x := fun y hy => hs y (by simp [hy])
    have h0 := (sumW_bound hx hk).1
    have h1 := word_length (hs v (by simp)) k
    have e : (wRice L v k).2 = L ++ word v k := by unfold wRice; rw [if_neg (by omega)]
    have := words_fit k hk (x := x) (L := L ++ word v k) hx (by rw [List.length_append]; omega)
    show wordsStep (wRice L v k).2 x k = _
    rw [e, this]
    unfold wordsBits
    rw [List.flatMap_cons, List.append_assoc]
theorem part_fit {x L : List Int} (hs : smallL x) (h : (L.length : Int) + costP x ≤ 1048576) : partStep L x = L ++ partBits x := by
  obtain ⟨⟨k, hk, hk14⟩, hb⟩ := bestW_bound hs
  have hv := @bestW_val x
  unfold costP at h
  unfold partStep partBits
  rw [hk, Int.toNat_natCast] at *
  have e : (wPut L (k : Int) 4).2 = L ++ numb (k : Int) 4 := by
    have := wPut_ok L (k : Int) 4 (by omega) (by omega) (by omega)
    rw [show ((4 : Nat) : Int) = 4 from rfl] at this
    rw [this]
  rw [e, words_fit k hk14 hs (by rw [List.length_append, numb_length]; omega), List.append_assoc]
theorem parts_fit {l : List Int} (hs : smallL l) (hl : l.length ≤ 100000) (p : Nat) : ∀ {is : List Nat} {L : List Int}, (L.length : Int) + csum l p is ≤ 1048576 → partsStep l p L is = L ++ partsBits l p is
  | [], L, _ => by simp [partsStep, partsBits]
  | i :: is, L, h => by
    have hc : csum l p (i :: is) = costP (partL l p i) + csum l p is := by unfold csum; simp
    have h0 := (csum_bound hs hl p is).1
    rw [hc] at h
    have h1 := part_length (partL_small hs p i)
    have := parts_fit hs hl p (is := is) (L := L ++ partBits (partL l p i)) (by rw [List.length_append]; omega)
    show partsStep l p (partStep L (partL l p i)) is = _
    rw [part_fit (partL_small hs p i) (by omega), this]
    unfold partsBits
    rw [List.flatMap_cons, List.append_assoc]
theorem list_fit {l : List Int} (hs : smallL l) (hl : l.length ≤ 100000) {p : Nat} (hp : p ≤ 3) {L : List Int} (h : (L.length : Int) + wholeW l p ≤ 1048576) :
    partsStep l p (wPut L (p : Int) 2).2 (List.range' 0 (2 ^ p)) = L ++ listBits l p := by
  rw [wholeW_csum] at h
  have h0 := (csum_bound hs hl p (List.range' 0 (2 ^ p))).1
  have e : (wPut L (p : Int) 2).2 = L ++ numb (p : Int) 2 := by
    have := wPut_ok L (p : Int) 2 (by omega) (by omega) (by omega)
    rw [show ((2 : Nat) : Int) = 2 from rfl] at this
    rw [this]
  rw [e, parts_fit hs hl p (by rw [List.length_append, numb_length]; omega)]
  unfold listBits
  rw [List.append_assoc]
theorem take_snoc {X : List Int} {j : Nat} (h : j < X.length) : X.take (j + 1) = X.take j ++ [X.getD j 0] := by
  rw [List.take_add_one, List.getD_eq_getElem?_getD, List.getElem?_eq_getElem h]; rfl
theorem smallL_getD {X : List Int} (h : smallL X) {j : Nat} (hj : j < X.length) : -2147483648 ≤ X.getD j 0 ∧ X.getD j 0 ≤ 2147483647 := by
  rw [List.getD_eq_getElem?_getD, List.getElem?_eq_getElem hj]; exact h _ (List.getElem_mem hj)
abbrev wBox (p : Nat) : Obj := .cells #[.pointer (some ⟨p, 0, none⟩)] 32 (0, 0)
theorem WrTo.keepsFrom' {W W' : World} {S1 : Nat → Prop} {p B : Nat} {L L' : List Int} (h0 : Wr W S1 p L) (h : WrTo W S1 p L' W') : KeepsFrom B W W' := by
  obtain ⟨S', _, _, f⟩ := h
  refine ⟨f.size, fun i o _ hi ho => ?_⟩
  rw [f.block i (lt_of_block hi) ?_]
  · exact hi
  · rintro (rfl | q)
    · obtain ⟨v, hk, _⟩ := h0.blk
      rw [hi] at hk; cases hk; cases ho
    · obtain ⟨cells, hk⟩ := h0.typed i q
      rw [hi] at hk; cases hk; cases ho
attribute [local go_sem] Oper.semAt_some
set_option maxHeartbeats 8000000 in
set_option maxRecDepth 100000 in
theorem Write_any5 (S : Nat → Prop) (pw : Nat) (L : List Int) (A : Option Addr) (c : Nat) (l : List Int) (w : World) (hW : Wr w S pw L) (hL : L.length ≤ 1048576)
    (hC : ∀ W, Fr (fun k => k = pw ∨ S k) w W → Kd.C (Kd.int .i64) W A l.length l) (hc : l.length ≤ c) (hl : l.length ≤ 1000000000) :
    Calls Tryz.prog 100 #[.pointer (some ⟨pw, 0, none⟩), .slice A l.length c] w fun e w' => e = .returned (.int .i64 (fWrite L l).1) ∧ WrTo w S pw (fWrite L l).2 w' := by
  have hC0 := hC w (Fr.refl _ _)
  have hpl := hW.p_lt
  obtain ⟨bw, hbw⟩ : ∃ bw, bw = w.heap.size := ⟨_, rfl⟩
  obtain ⟨w1, hw1⟩ : ∃ w1, w1 = w.alloc (wBox pw) := ⟨_, rfl⟩
  have hb1 : Below w.heap.size w w1 := by rw [hw1]; exact below_alloc (Below.refl _ _) _
  have hk1 : w1.heap[bw]? = some (wBox pw) := by rw [hw1, hbw]; exact World.alloc_heap_new w _
  have HE1 : Aside0 (w.alloc (.cells #[.pointer (some ⟨pw, 0, none⟩)] 32) = w1) := ⟨hw1.symm⟩
  have HBW := Aside0.mk hbw
  have HW := Aside0.mk hW
  have HC := Aside0.mk hC
  have HB1 := Aside0.mk hb1
  have HK1 := Aside0.mk hk1
  have HPL := Aside0.mk hpl
  have HCH := Aside0.mk (check_any A c l w1 (Kd.C_below hC0 hb1) hl)
  have HFW : Aside0 (fWrite L l = if chk l ≠ 0 then (chk l, L) else if 1048576 < (L.length : Int) + (orderW l).2 then (2, L) else (0, L ++ listBits l (orderW l).1.toNat)) := ⟨rfl⟩
  generalize fWrite L l = fw at *
  have z0 : (w.alloc (.cells #[.pointer (some ⟨pw, 0, none⟩)] 32)).cell? ⟨w.heap.size, 0, none⟩ = some (.pointer (some ⟨pw, 0, none⟩)) := cell_of_one (World.alloc_heap_new w (wBox pw))
  clear hW hC hC0 hbw hw1 hb1 hk1 hpl
  by_cases hch : chk l = 0
  case neg =>
    rw [if_pos hch] at HFW
    have q1 : (chk l != 0) = true := by simpa using hch
    generalize chk l = ck at *
    clear hch
    go_enter Tryz.func100, Tryz.ntmps100
    go_wp2_with fail
    rw [HE1.out]
    refine HCH.out.mono ?_
    rintro e w2 ⟨rfl, hd⟩
    have HB2 := Aside0.mk (HB1.out.trans (hd.below.mono HB1.out.size))
    clear hd
    go_wp2_with fail
    go_ret
    rw [HFW.out]
    exact ⟨rfl, HW.out.wrTo HB2.out⟩
  obtain ⟨hl8, hs⟩ := chk_zero.1 hch
  rw [if_neg (by simp [hch])] at HFW
  rw [hch] at HCH
  have HOR := Aside0.mk (fun W hW' => order_any A c l W hW' hc hs (by omega))
  obtain ⟨⟨p, hp1, hp3, hdv, hp2⟩, hob⟩ := orderW_bound hs (by omega)
  have hfit := @list_fit l hs (by omega) p hp3 L
  rw [← hp2] at hfit
  have hz : 0 ≤ (orderW l).2 ∧ (orderW l).2 ≤ 45600034 := hob
  generalize orderW l = o at *
  obtain ⟨o1, cost⟩ := o
  dsimp only at hp1 HFW HOR hfit hz
  subst hp1
  rw [Int.toNat_natCast] at HFW
  have HLEN := Aside0.mk (fun W hW' => Len_any S pw L W hW')
  clear hch hdv hp2 hob
  by_cases hbig : 1048576 < (L.length : Int) + cost
  · rw [if_pos hbig] at HFW
    have d1 : decide (1048576 < (L.length : Int) + cost) = true := by simpa using hbig
    clear hbig hfit
    go_enter Tryz.func100, Tryz.ntmps100
    go_wp2_with fail
    rw [HE1.out, ← HBW.out]
    refine HCH.out.mono ?_
    rintro e w2 ⟨rfl, hd⟩
    have hk2 := blk_fr HK1.out (Fr.below hd.below (fun _ => False)) (fun h => h)
    have HB2 := Aside0.mk (HB1.out.trans (hd.below.mono HB1.out.size))
    have HK2 := Aside0.mk hk2
    clear hd hk2 z0
    go_wp2_with fail
    refine (HOR.out w2 (HC.out _ (Fr.below HB2.out _))).mono ?_
    rintro e w3 ⟨rfl, hb⟩
    have hk3 := blk_fr HK2.out (Fr.below hb (fun _ => False)) (fun h => h)
    have c3 := cell_of_one hk3
    have HB3 := Aside0.mk (HB2.out.trans (hb.mono HB2.out.size))
    clear hb hk3
    go_wp2_with fail
    refine (HLEN.out w3 (HW.out.below HB3.out)).mono ?_
    rintro e w4 ⟨rfl, hw⟩
    obtain rfl := hw.symm
    go_wp2_with fail
    go_ret
    rw [HFW.out]
    exact ⟨rfl, HW.out.wrTo HB3.out⟩
  rw [if_neg hbig] at HFW
  have d1 : decide (1048576 < (L.length : Int) + cost) = false := by simpa using hbig
  have HFIT := Aside0.mk (hfit (by omega))
  clear hbig hfit
  obtain ⟨ep, hep⟩ : ∃ x, x = (wPut L (p : Int) 2).1 := ⟨_, rfl⟩
  obtain ⟨L2, hL2⟩ : ∃ x, x = (wPut L (p : Int) 2).2 := ⟨_, rfl⟩
  have hPT := fun S' W hW' => Put_any S' pw L (p : Int) 2 W hW' hL
  rw [← hep, ← hL2] at hPT
  rw [← hL2] at HFIT
  have HL2 : Aside0 (L2.length ≤ 1048576) := ⟨by rw [hL2]; exact wPut_le _ _ hL⟩
  have HPT := Aside0.mk hPT
  have HSM := Aside0.mk hs
  have h8 := pow_le8 hp3
  have HPL2 := Aside0.mk (partL_length l p)
  have HPSN := Aside0.mk (partsStep_snoc l p L2)
  have HPSL := Aside0.mk (fun is => partsStep_le hs p (is := is) HL2.out)
  have HWL := Aside0.mk (fun k (hk : S k) => HW.out.lt k hk)
  clear hep hL2 hPT
  refine (callsIn_wide (n := 5)).1 ?_
  refine callsIn_of_wp_marks Tryz.func100 rfl trivial ?_ rfl
  simp only [Tryz.ntmps100, List.size_toArray, List.length_cons, List.length_nil, Nat.reduceAdd, Nat.reduceSub, Array.replicate_succ, Array.replicate_zero, List.push_toArray, List.append_toArray, List.nil_append, List.cons_append]
  refine wpIn_wide.2 ?_
  go_wp2_with fail
  rw [HE1.out, ← HBW.out]
  refine HCH.out.mono ?_
  rintro e w2 ⟨rfl, hd⟩
  have hk2 := blk_fr HK1.out (Fr.below hd.below (fun _ => False)) (fun h => h)
  have HB2 := Aside0.mk (HB1.out.trans (hd.below.mono HB1.out.size))
  have HK2 := Aside0.mk hk2
  clear hd hk2 z0
  go_wp2_with fail
  refine (HOR.out w2 (HC.out _ (Fr.below HB2.out _))).mono ?_
  rintro e w3 ⟨rfl, hb⟩
  have hk3 := blk_fr HK2.out (Fr.below hb (fun _ => False)) (fun h => h)
  have c3 := cell_of_one hk3
  have HB3 := Aside0.mk (HB2.out.trans (hb.mono HB2.out.size))
  have HK3 := Aside0.mk hk3
  clear hb hk3
  go_wp2_with fail
  refine (HLEN.out w3 (HW.out.below HB3.out)).mono ?_
  rintro e w4 ⟨rfl, hw⟩
  obtain rfl := hw.symm
  go_wp2_with fail
  refine (HPT.out S w3 (HW.out.below HB3.out)).mono ?_
  rintro e w5 ⟨rfl, h5⟩
  have h5' : WrTo w S pw L2 w5 := WrTo.glue (fun k hk => .inl hk) (Fr.below HB3.out _) h5
  have hbwS : ¬ (bw = pw ∨ S bw) := by
    have := HBW.out; have := HPL.out
    rintro (o | o)
    · omega
    · have := HWL.out _ o; omega
  have hk5 : w5.heap[bw]? = some (wBox pw) := by
    obtain ⟨S', _, _, f⟩ := h5
    exact blk_fr HK3.out f hbwS
  have hsz5 : bw < w5.heap.size := lt_of_block hk5
  have H5 := Aside0.mk h5'
  have HK5 := Aside0.mk hk5
  clear h5 h5' hk5 c3 HB2 HB3 HK2 HK3
  obtain ⟨wz, hwz⟩ : ∃ wz, wz = (w5.alloc (listBox A l.length c)).alloc (intBox (p : Int)) := ⟨_, rfl⟩
  obtain ⟨bl, hbl⟩ : ∃ bl, bl = w5.heap.size := ⟨_, rfl⟩
  have hb5z : Below w5.heap.size w5 wz := by rw [hwz]; exact below_alloc (below_alloc (Below.refl _ _) _) _
  have hszz : wz.heap.size = w5.heap.size + 2 := by rw [hwz]; simp
  have hkl : wz.heap[bl]? = some (listBox A l.length c) := by rw [hwz, hbl]; exact blk_alloc' (World.alloc_heap_new w5 _) _
  have hkp : wz.heap[bl + 1]? = some (intBox (p : Int)) := by
    rw [hwz, hbl]
    have := World.alloc_heap_new (w5.alloc (listBox A l.length c)) (intBox (p : Int))
    simpa using this
  have hkw : wz.heap[bw]? = some (wBox pw) := blk_fr HK5.out (Fr.below hb5z (fun _ => False)) (fun h => h)
  have HN := Aside0.mk (show bw = w.heap.size ∧ bw < bl ∧ bl + 2 = wz.heap.size ∧ pw < bw from ⟨HBW.out, by omega, by omega, by have := HPL.out; have := HBW.out; omega⟩)
  have hTb : ∀ k, (k ≠ bl ∧ k ≠ bl + 1 ∧ (k = pw ∨ S k ∨ w.heap.size ≤ k)) → k ≠ bl ∧ k ≠ bl + 1 := fun k h => ⟨h.1, h.2.1⟩
  have HST := Aside0.mk (parts_stops 4 bl (bl + 1) A c l p hp3 (by omega) hc (fun k => k ≠ bl ∧ k ≠ bl + 1 ∧ (k = pw ∨ S k ∨ w.heap.size ≤ k)) wz hkl hkp (fun h => h.1 rfl) (fun h => h.2.1 rfl))
  have HJ0 : Aside0 (WrTo w S pw (partsStep l p L2 []) wz) := ⟨by
    obtain ⟨S', k1, k2, k3⟩ := H5.out
    exact ⟨S', k1.below hb5z, k2, k3.trans (Fr.below hb5z _)⟩⟩
  have HZL := Aside0.mk hkl
  have HZP := Aside0.mk hkp
  have HZW := Aside0.mk hkw
  have HWZ := Aside0.mk hwz
  have HBL := Aside0.mk hbl
  clear hwz hbl hb5z hszz hkl hkp hkw hTb hbwS hsz5
  go_wp2_with fail
  refine (parts_any A l.length c p w5).mono ?_
  rintro e w6 ⟨rfl, hw⟩
  rw [← HWZ.out] at hw
  obtain rfl := hw.symm
  rw [← HBL.out]
  go_wp2_with fail
  refine (wpIn_wide (n := 5)).1 ?_
  refine wpIn_rangeFunc_ownG rfl (by omega) (gf := 165) (lb := #[.pointer (some ⟨bl, 0, none⟩), .pointer (some ⟨bl + 1, 0, none⟩)]) rfl trivial (enters_of Tryz.func165 (by kernel_rfl) rfl)
    HST.out (fun h k => h.trans k) ?hKb (Below.refl wz.heap.size wz) (fun _ => rfl)
    (fun pre W => (WrTo w S pw (partsStep l p L2 (pre.map (·.1))) W ∧ wz.heap.size ≤ W.heap.size) ∧ W.heap[bw]? = some (wBox pw) ∧ W.heap[bl]? = some (listBox A l.length c) ∧ W.heap[bl + 1]? = some (intBox (p : Int)))
    (fun _ _ _ => False) ?hI (fun _ _ _ _ _ hs _ _ => hs) ⟨⟨HJ0.out, Nat.le_refl _⟩, HZW.out, HZL.out, HZP.out⟩
    (fun i : PIx p => { tmps := #[.pointer (some ⟨pw, 0, none⟩), .slice A l.length c, .pointer (some ⟨bw, 0, none⟩), undef, .int .i64 0, .int .i64 0, .int .i64 (p : Int), .int .i64 cost, partV A c (partN l p) i.1, undef, undef, undef, undef, .pointer (some ⟨pw, 0, none⟩), .bool false, .slice A l.length c, .int .i64 0, .int .i64 0, .bool false, undef, .tuple #[.int .i64 (p : Int), .int .i64 cost], .slice A l.length c, .tuple #[.int .i64 (p : Int), .int .i64 cost], .int .i64 (p : Int), .int .i64 cost, .pointer (some ⟨pw, 0, none⟩), .int .i64 (L.length : Int), .int .i64 cost, .int .i64 ((L.length : Int) + cost), .bool false, .pointer (some ⟨pw, 0, none⟩), .int .i64 (p : Int), .int .i64 ep, .slice A l.length c, .int .i64 (p : Int), seqP bl (bl + 1), partV A c (partN l p) i.1, undef, undef, undef, undef, undef, undef, undef, undef, undef, undef, undef, undef, undef, undef, undef, undef, undef, undef, undef], defers := [] })
    ?assign ?body ?done ?stop
  case hKb =>
    intro W l' o o' hl' ho hc' _
    exact (Fr.refl _ _).grown (grownBy_putObj' W l' o') (fun k _ e => by cases e; have := HN.out; exact ⟨by omega, by omega, .inr (.inr (by omega))⟩)
  case hI =>
    rintro s X Y row ⟨⟨hw, hs4⟩, h1, h2, h3⟩ hg hrow
    exact ⟨⟨hw.own HPL.out hg (fun r e => ⟨by have := (hrow r e).1; have := HN.out; omega, (hrow r e).2⟩), Nat.le_trans hs4 hg.size⟩, own_cells (β := Unit) wz.heap.size bw _ _ _ () X Y row h1 hg hrow, own_cells (β := Unit) wz.heap.size bl _ _ _ () X Y row h2 hg hrow, own_cells (β := Unit) wz.heap.size (bl + 1) _ _ _ () X Y row h3 hg hrow⟩
  case assign =>
    intro l' x W K hK
    gi_wp2
    exact hK
  case body =>
    rintro l' pre i W ⟨⟨hw, hs4⟩, h1, h2, h3⟩ hlen
    obtain ⟨S1, hW1, hs1, hf1⟩ := hw
    have hnb : ∀ k, k = pw ∨ S1 k → k ≠ bw ∧ k ≠ bl ∧ k ≠ bl + 1 := by
      have := HN.out
      rintro k (o | o)
      · exact ⟨by omega, by omega, by omega⟩
      · obtain ⟨cells, hk⟩ := hW1.typed k o
        refine ⟨?_, ?_, ?_⟩ <;> (rintro rfl; first | (rw [h1] at hk; cases hk) | (rw [h2] at hk; cases hk) | (rw [h3] at hk; cases hk))
    have hXN := HPL2.out i.1 i.2
    have hXS := partL_small HSM.out p i.1
    have hXC := fun W' hf => part_C (HC.out W' hf) hc p i.1 i.2
    have hpm := param_any (pAt A c (partN l p) i.1) (c - i.1 * partN l p) (partL l p i.1) W (hXC W hf1) (by rw [hXN]; have := part_le l p i.1 i.2; omega) hXS (by have := partL_len_le l p i.1; omega)
    obtain ⟨⟨kk, hkk, hkk14⟩, _⟩ := bestW_bound hXS
    have hL1 := HPSL.out (pre.map (·.1))
    have hsn : partsStep l p L2 ((pre ++ [i]).map (·.1)) = partStep (partsStep l p L2 (pre.map (·.1))) (partL l p i.1) := by rw [List.map_append]; exact HPSN.out _ i.1
    unfold partStep at hsn
    rw [hkk, Int.toNat_natCast] at hsn
    have hNl := partN_le l p
    rw [hXN] at hpm hXC
    rw [hkk] at hpm
    generalize (bestW (partL l p i.1)).2 = x at *
    generalize partsStep l p L2 (pre.map (·.1)) = L1 at *
    generalize partL l p i.1 = X at *
    clear hkk
    have HXC := Aside0.mk hXC
    have HXS := Aside0.mk hXS
    have HPM := Aside0.mk hpm
    have HW1 := Aside0.mk hW1
    have HS1 := Aside0.mk hs1
    have HF1 := Aside0.mk hf1
    have H1 := Aside0.mk h1
    have HNB := Aside0.mk hnb
    have HSN := Aside0.mk hsn
    have HL1 := Aside0.mk hL1
    have HS4 := Aside0.mk hs4
    have H2 := Aside0.mk h2
    have H3 := Aside0.mk h3
    have HXN := Aside0.mk hXN
    clear hXC hXS hpm hW1 hs1 hf1 h1 h2 h3 hnb hsn hL1 hs4 hXN
    gi_wp2
    refine ⟨trivial, ?_⟩
    have hcall := callsIn_wide (n := 2).2 HPM.out
    refine CallsIn.mono (show CallsIn (Fence.wide.inRound l') 2 Tryz.prog _ _ W _ from hcall) ?_
    clear hcall
    rintro e W1 ⟨rfl, hb⟩
    have hk := blk_fr H1.out (Fr.below hb (fun _ => False)) (fun h => h)
    have cb := cell_of_one hk
    have HBB := Aside0.mk hb
    have HKB := Aside0.mk hk
    clear hb hk
    gi_wp2
    refine ⟨trivial, ?_⟩
    have hcall := callsIn_wide (n := 2).2 (Put_any S1 pw L1 (kk : Int) 4 W1 (HW1.out.below HBB.out) HL1.out)
    refine CallsIn.mono (show CallsIn (Fence.wide.inRound l') 2 Tryz.prog _ _ W1 _ from hcall) ?_
    clear hcall
    rintro e W2 ⟨rfl, hd⟩
    obtain ⟨L3, hL3⟩ : ∃ x, x = (wPut L1 (kk : Int) 4).2 := ⟨_, rfl⟩
    have hl3 : L3.length ≤ 1048576 := by rw [hL3]; exact wPut_le _ _ HL1.out
    rw [← hL3] at hd
    have hsn := HSN.out
    rw [← hL3] at hsn
    have HSN2 := Aside0.mk hsn
    have hd2 : WrTo W S1 pw L3 W2 := WrTo.glue (fun k hk => .inl hk) (Fr.below HBB.out _) hd
    have HD := Aside0.mk hd2
    have HL3 := Aside0.mk hl3
    generalize (wPut L1 (kk : Int) 4).1 = e3 at *
    clear hL3 hl3 hsn hd hd2 HSN cb HKB HL1 HPM
    have hNl2 : partN l p ≤ 8192 := by omega
    obtain ⟨pa, hpa⟩ : ∃ x, x = pAt A c (partN l p) i.1 := ⟨_, rfl⟩
    have hpv : partV A c (partN l p) i.1 = .slice pa (partN l p) (c - i.1 * partN l p) := by rw [hpa]
    have hxc := HXC.out
    rw [← hpa] at hxc
    have HXC := Aside0.mk hxc
    rw [hpv]
    clear hpv hpa hxc
    generalize c - i.1 * partN l p = cc
    generalize partN l p = N at *
    gi_wp2
    gi_loopw [47] (fun u wr => ∃ j : Nat, u = .int .i64 (j : Int) ∧ j ≤ N ∧ Aside0 (WrTo W S1 pw (wordsStep L3 (X.take j) kk) wr)) (fun u _ => N - (intOf u).toNat)
    case atStart => exact ⟨0, rfl, Nat.zero_le _, ⟨HD.out⟩⟩
    case round =>
      obtain ⟨j, rfl, hj, HDJ⟩ := hrel
      obtain ⟨SJ, hWJ, hsJ, hfJ⟩ := HDJ.out
      have hkb := blk_fr H1.out hfJ (fun h => (HNB.out _ h).1 rfl)
      by_cases hlt : j < N
      · obtain ⟨_, _, _, hfw⟩ := WrTo.glue HS1.out HF1.out HDJ.out
        obtain ⟨ad, e, hx⟩ := at64 (HXC.out wr hfw) j hlt
        subst e
        have hlx : j < X.length := by rw [HXN.out]; exact hlt
        have cb := cell_of_one hkb
        have hput := put_any5 SJ pw (wordsStep L3 (X.take j) kk) (X.getD j 0) kk wr hWJ (wordsStep_le kk (smallL_take HXS.out j) HL3.out) (smallL_getD HXS.out hlx) hkk14
        rw [← wordsStep_snoc, ← take_snoc hlx] at hput
        have hput := hput.mono (fun e w' ⟨he, hw'⟩ => (⟨he, WrTo.glue hsJ hfJ hw'⟩ : e = Ending.returned (.int .i64 (wRice (wordsStep L3 (X.take j) kk) (X.getD j 0) kk).1) ∧ WrTo W S1 pw _ w'))
        have HPUT := Aside0.mk hput
        generalize (wRice (wordsStep L3 (X.take j) kk) (X.getD j 0) kk).1 = er at *
        generalize X.getD j 0 = xj at *
        clear hput hWJ hsJ hfJ hfw hkb hlx
        gi_wp2
        refine ⟨trivial, ?_⟩
        have hcall := callsIn_wide (n := 2).2 HPUT.out
        refine CallsIn.mono (show CallsIn (Fence.wide.inRound l') 2 Tryz.prog _ _ wr _ from hcall) ?_
        clear hcall
        rintro e W3 ⟨rfl, hd⟩
        gi_wp2
        go_roundw
        case rel => exact ⟨j + 1, by go_num, by omega, ⟨hd⟩⟩
        case measure => simp [intOf]; omega
      · obtain rfl : j = N := by omega
        have hx2 : X.take j = X := List.take_of_length_le (by rw [HXN.out]; exact Nat.le_refl _)
        rw [hx2] at HDJ
        gi_wp2
        refine ⟨WrTo.keepsFrom' HW1.out HDJ.out, hfJ.mono (fun k _ hk => ?_), ⟨?_, Nat.le_trans HS4.out hfJ.size⟩, hkb, blk_fr H2.out hfJ (fun h => (HNB.out _ h).2.1 rfl), blk_fr H3.out hfJ (fun h => (HNB.out _ h).2.2 rfl)⟩
        · have h1 := HNB.out k hk
          refine ⟨h1.2.1, h1.2.2, ?_⟩
          rcases hk with hk | hk
          · exact .inl hk
          · exact .inr (HS1.out k hk)
        · rw [HSN2.out]
          exact WrTo.glue HS1.out HF1.out HDJ.out
  case done =>
    rintro D ys W hD hys ⟨⟨hb, hs4⟩, h3⟩ hK
    rw [hys, HFIT.out] at hb
    have HB := Aside0.mk hb
    have HK := Aside0.mk hK
    clear h3 hb hK hys
    (try simp only [Exit.inBlock, Exit.then])
    go_wp2_with fail
    refine ⟨by simp, .inl ⟨_, _, rfl, run_takeDeferred HK.out, ?_⟩⟩
    refine ⟨_, results_tmp rfl _ _ _, by rw [HFW.out]; rfl, ?_⟩
    rw [HFW.out]
    exact HB.out.own HPL.out (grownBy_putObj' W D (.deferred none)) (fun r e => by cases e; exact ⟨by have := HN.out; omega, _, HK.out, rfl⟩)
  case stop =>
    rintro D c pre W _ _ h _
    exact h.elim
end Go.Proofs.YtjcijaojcgampaaGreatDoor.P
end
section
namespace Go.Proofs.YtjcijaojcgampaaGreatDoor.P
open Go.RowKit Go.Shelf Go.Proofs.YtjcijaojcgampaaGreatDoor.Bits Go.Proofs.YtjcijaojcgampaaGreatDoorW.PrintWords Go.Proofs.YtjcijaojcgampaaGreatDoorW.PrintLast Go.Proofs.YtjcijaojcgampaaGreatDoorW.PrintMore
set_option linter.unusedVariables false
set_option linter.unusedSimpArgs false
attribute [local go_sem ↓] Go.wp_at_zero Go.wp_at_succ
/-- n words from a on: the error, the list so far, the position. -/
def rWords (L : List Int) (k : Nat) : Nat → Nat → List Int → Int × List Int × Nat
  | 0, a, acc => (0, acc, a)
  | n + 1, a, acc => if (rRice L a k).2.1 ≠ 0 then ((rRice L a k).2.1, acc, a) else rWords L k n (rRice L a k).2.2 (acc ++ [(rRice L a k).1])
/-- m parts of N words. -/
def rParts (L : List Int) (N : Nat) : Nat → Nat → List Int → Int × List Int × Nat
  | 0, a, acc => (0, acc, a)
  | m + 1, a, acc => if (rGet L a 4).2.1 ≠ 0 then ((rGet L a 4).2.1, acc, a) else if 14 < (rGet L a 4).1 then (4, acc, a)
    else if (rWords L (rGet L a 4).1.toNat N (rGet L a 4).2.2 acc).1 ≠ 0 then rWords L (rGet L a 4).1.toNat N (rGet L a 4).2.2 acc
    else rParts L N m (rWords L (rGet L a 4).1.toNat N (rGet L a 4).2.2 acc).2.2 (rWords L (rGet L a 4).1.toNat N (rGet L a 4).2.2 acc).2.1
def partDone (L : List Int) (N m : Nat) (r : Int × List Int × Nat) : Int × List Int × Nat := if r.1 ≠ 0 then r else rParts L N m r.2.2 r.2.1
def rList (L : List Int) (a count : Nat) : Int × List Int × Nat :=
  if (rGet L a 2).2.1 ≠ 0 then ((rGet L a 2).2.1, [], a) else if divB count (rGet L a 2).1.toNat then rParts L (count / 2 ^ (rGet L a 2).1.toNat) (2 ^ (rGet L a 2).1.toNat) (rGet L a 2).2.2 [] else (4, [], a)
def fRead (L : List Int) (a : Nat) (count : Int) : List Int × Int × Nat :=
  if count < 0 ∨ 8192 < count then ([], 1, a) else if (rList L a count.toNat).1 ≠ 0 then ([], (rList L a count.toNat).1, a) else ((rList L a count.toNat).2.1, 0, (rList L a count.toNat).2.2)
theorem shr_p {p : Nat} (c : Nat) : (c : Int) / 2 ^ p = ((c / 2 ^ p : Nat) : Int) := by push_cast; rfl
theorem one_shl {p : Nat} (hp : p ≤ 3) : wrap64 (2 ^ p) = ((2 ^ p : Nat) : Int) := by
  have h : (2 : Int) ^ p = ((2 ^ p : Nat) : Int) := by push_cast; rfl
  have := pow_le8 hp
  rw [h]; exact wrap64_id (by omega) (by omega)
theorem rGet2 {L : List Int} {a : Nat} (h01 : is01 L) (h : (rGet L a 2).2.1 = 0) : ∃ p : Nat, p ≤ 3 ∧ (rGet L a 2).1 = p := by
  have := rGet_ok (n := 2) h01 h
  simp only [Int.reducePow] at this
  exact ⟨(rGet L a 2).1.toNat, by have h1 : (rGet L a ((2 : Nat) : Int)).1 = (rGet L a 2).1 := rfl; omega, by have h1 : (rGet L a ((2 : Nat) : Int)).1 = (rGet L a 2).1 := rfl; omega⟩
theorem rGet4 {L : List Int} {a : Nat} (h01 : is01 L) (h : (rGet L a 4).2.1 = 0) : ∃ k : Nat, k ≤ 15 ∧ (rGet L a 4).1 = k := by
  have := rGet_ok (n := 4) h01 h
  simp only [Int.reducePow] at this
  exact ⟨(rGet L a 4).1.toNat, by have h1 : (rGet L a ((4 : Nat) : Int)).1 = (rGet L a 4).1 := rfl; omega, by have h1 : (rGet L a ((4 : Nat) : Int)).1 = (rGet L a 4).1 := rfl; omega⟩
theorem RRd.notint {w : World} {S : Nat → Prop} {p a : Nat} {L : List Int} (h : RRd w S p L a) : ∀ k cs, k = p → k < w.heap.size → w.heap[k]? ≠ some (.cells cs 3 (0, 0)) := by
  rintro k cs rfl _ he
  obtain ⟨v, hb, _⟩ := h.blk
  rw [hb] at he
  cases he
theorem RowV.mono {w : World} {base base' : Nat} {e : TypeId} {sz : Nat} {v : Value} {n : Nat} {fl : List Value} (h : RowV w base e sz v n fl) (hb : base' ≤ base) : RowV w base' e sz v n fl := by
  refine ⟨h.1, ?_⟩
  rcases h.2 with hn | ⟨g, cap, cur, rfl, hb', rest⟩
  · exact .inl hn
  · exact .inr ⟨g, cap, cur, rfl, Nat.le_trans hb hb', rest⟩
/-- One more number in a row of one's own: the row's frame. -/
theorem row_more {W0 w w5 : World} {T : Nat → Prop} {v : Value} {l : List Int} {o : Obj} (hf : Fr T W0 w) (hv : RowV w W0.heap.size 3 1 v l.length (flatI l)) (hg : (w.alloc o).grownBy w5 v.ownBlock) :
    Fr T W0 w5 ∧ Fr (fun k => v.ownBlock = some k) w w5 :=
  ⟨(hf.alloc o).grown hg (fun k hk e => by have := (hv.block k e).2; omega), ((Fr.refl _ _).alloc o).grown hg (fun k _ e => e)⟩
theorem RRd.row {w w5 : World} {S : Nat → Prop} {p a base : Nat} {L l : List Int} {v : Value} (h : RRd w S p L a) (hv : RowV w base 3 1 v l.length (flatI l)) (hf : Fr (fun k => v.ownBlock = some k) w w5) : RRd w5 S p L a := by
  refine h.fr hf (fun e => ?_) (fun k hk e => ?_)
  · obtain ⟨⟨cs, hc⟩, _⟩ := hv.block p e
    obtain ⟨u, hb, _⟩ := h.blk
    rw [hc] at hb
    cases hb
  · obtain ⟨⟨cs, hc⟩, _⟩ := hv.block k e
    obtain ⟨cs', hb⟩ := h.typed k hk
    rw [hc] at hb
    cases hb
end Go.Proofs.YtjcijaojcgampaaGreatDoor.P
end
