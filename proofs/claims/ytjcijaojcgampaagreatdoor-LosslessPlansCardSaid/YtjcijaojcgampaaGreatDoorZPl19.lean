/- The walks of shawmlaw05.RiceFolds, RiceCosts; the arguments of chapter 5, opened. Two writers beside each other; the walk of shawmlaw05.RicePuts. append of lists of ints; the walk of shawmlaw05.RiceParts. Lists in parts (plain law); the contract of rice.Write. The least of bestW and orderW (plain law); the walk of shawmlaw05.RiceLeast. Lists that are read (plain law); the contracts of the reference's read and Read. The contract of the reference's Write. shawmref20.listed: its value and its contract (of the printed form). -/
import Derived.Deep.RegionHeld3
import Derived.Test.YtjcijaojcgampaaGreatDoorZPl16
import Derived.Test.YtjcijaojcgampaaGreatDoorZPl18
import Derived.Test.YtjcijaojcgampaaGreatDoorZPl13
import Derived.Test.YtjcijaojcgampaaGreatDoorZPl14
set_option linter.unusedVariables false
set_option linter.unusedSimpArgs false
set_option maxHeartbeats 16000000
set_option maxRecDepth 100000
section
namespace Go.Proofs.YtjcijaojcgampaaGreatDoor.P
section
open Go.RowKit Go.Shelf Go.Proofs.YtjcijaojcgampaaGreatDoor.Bits Go.Proofs.YtjcijaojcgampaaGreatDoorW.PrintWords Go.Proofs.YtjcijaojcgampaaGreatDoorW.PrintLast Go.Proofs.YtjcijaojcgampaaGreatDoorW.PrintMore
attribute [local go_sem ↓] Go.wp_at_zero Go.wp_at_succ
end
section
open Go.ChangeShapes Go.WideShapes Go.ChangeAt Go.RowKit Go.Deep Go.Proofs.YtjcijaojcgampaaGreatDoor.Bits
open Go.Proofs.YtjcijaojcgampaaGreatDoorW.PrintWords
variable {H : Type} {enc : TypeId × Value → H} {W : World} {base : Nat} {spare : Nat → Bool} {held : Bool}
theorem open_list {n : Nat} {v : Value} {y : DataW H × List MemPlace} (h : DataW.trod enc Tryz.prog W base spare held n 22 [v] = some y) (hw : ∀ m ∈ y.1.weights Tryz.prog 22, m ≤ reachBytes) :
    ∃ (A : Option Addr) (c : Nat) (B : List Int), v = .slice A B.length c ∧ Kd.C (Kd.int .i64) W A B.length B ∧ (∀ x ∈ B, -9223372036854775808 ≤ x ∧ x ≤ 9223372036854775807) ∧ B.length ≤ c ∧ B.length ≤ reachBytes := by
  have fin : ∀ (a0 : Option Addr) (len0 cap0 : Nat) (z0 : List Int), ((a0 = none ∧ len0 = 0 ∧ cap0 = 0 ∧ z0 = []) ∨ ∃ x, a0 = some x ∧ len0 ≤ cap0 ∧ cap0 ≤ maxLen ∧ z0.length = cap0 ∧ (∀ i, i < z0.length → W.cell? (x.add i) = some (.int .i64 (z0.getD i 0))) ∧ ∀ n ∈ z0, (Lit.int .i64 n).wf = true) → len0 ≤ reachBytes →
      ∃ (A : Option Addr) (c : Nat) (B : List Int), (.slice a0 len0 cap0 : Value) = .slice A B.length c ∧ Kd.C (Kd.int .i64) W A B.length B ∧ (∀ x ∈ B, -9223372036854775808 ≤ x ∧ x ≤ 9223372036854775807) ∧ B.length ≤ c ∧ B.length ≤ reachBytes := by
    intro a0 len0 cap0 z0 w0 hr
    obtain ⟨l0, rfl, hr0, hm0, hw0, hc0⟩ := ReadsInt.ofRowC w0
    have hC : Kd.C (Kd.int .i64) W a0 l0.length l0 := Kd.C_of_reads (d := (0 : Int)) (h1 := fun _ => rfl) hr0
    exact ⟨a0, cap0, l0, rfl, hC, fun b hb => wf64 (hw0 b hb), hc0, hr⟩
  rcases open_ints Tryz.underlying22 Tryz.underlying3 (by kernel_rfl) h with ⟨hcs, _⟩ | ⟨x, l, c, zs, hcs, _, hl, hm, hz, hx, hcell, hwz⟩
  · cases hcs
    exact fin none 0 0 [] (.inl ⟨rfl, rfl, rfl, rfl⟩) (Nat.zero_le _)
  · cases hcs
    have hlz : l ≤ zs.length := by
      rw [hz]
      split
      · exact hl
      · exact Nat.le_refl _
    have hlen : l ≤ reachBytes := by
      subst hx
      have h1 := hw (((lits (H := H) .i64 (zs.take l)).length + (lits (H := H) .i64 (zs.drop l)).length) * Tryz.prog.bytesOf 3) (by
        unfold DataW.weights
        rw [Tryz.underlying22]
        exact List.mem_cons_self)
      have h2 : Tryz.prog.bytesOf 3 = 8 := by kernel_rfl
      rw [h2] at h1
      have h3 : (lits (H := H) .i64 (zs.take l)).length + (lits (H := H) .i64 (zs.drop l)).length = zs.length := by
        simp [lits]
        omega
      omega
    cases hsp : spare x.block with
    | true =>
      rw [hsp, if_pos rfl] at hz
      exact fin (some x) l c zs (.inr ⟨x, rfl, hl, hm, hz, hcell, hwz⟩) hlen
    | false =>
      rw [hsp, if_neg (by decide)] at hz
      obtain ⟨A, c', B, hv, r⟩ := fin (some x) l l zs (.inr ⟨x, rfl, Nat.le_refl _, Nat.le_trans hl hm, hz, hcell, hwz⟩) hlen
      injection hv with h1 h2 h3
      subst h1
      obtain ⟨r1, r2, r3, r4⟩ := r
      exact ⟨_, c, B, by rw [h2], r1, r2, by omega, r4⟩
end
end Go.Proofs.YtjcijaojcgampaaGreatDoor.P
end
section
namespace Go.Proofs.YtjcijaojcgampaaGreatDoor.P
open Go.RowKit Go.Shelf Go.Proofs.YtjcijaojcgampaaGreatDoor.Bits Go.Proofs.YtjcijaojcgampaaGreatDoorW.PrintWords Go.Proofs.YtjcijaojcgampaaGreatDoorW.PrintLast Go.Proofs.YtjcijaojcgampaaGreatDoorW.PrintMore
attribute [local go_sem ↓] Go.wp_at_zero Go.wp_at_succ
abbrev zeroRWr : Obj := .cells #[.slice none 0 0] 135 (0, 0)
abbrev RI (S : Nat → Prop) (w : World) (v : Value) (B : List Int) : Prop := Kd.R (Kd.int .i64) 3 w 0 S v B
def wordsBits (x : List Int) (k : Nat) : List Int := x.flatMap fun v => word v k
def partBits (x : List Int) : List Int := numb (bestW x).1 4 ++ wordsBits x (bestW x).1.toNat
def partsBits (l : List Int) (p : Nat) (is : List Nat) : List Int := is.flatMap fun i => partBits (partL l p i)
def listBits (l : List Int) (p : Nat) : List Int := numb (p : Int) 2 ++ partsBits l p (List.range' 0 (2 ^ p))
def wordsStep (L x : List Int) (k : Nat) : List Int := x.foldl (fun L v => (wRice L v k).2) L
def partStep (L x : List Int) : List Int := wordsStep (wPut L (bestW x).1 4).2 x (bestW x).1.toNat
def partsStep (l : List Int) (p : Nat) (L : List Int) (is : List Nat) : List Int := is.foldl (fun L i => partStep L (partL l p i)) L
def fWrite (L l : List Int) : Int × List Int := if chk l ≠ 0 then (chk l, L) else if 1048576 < (L.length : Int) + (orderW l).2 then (2, L) else (0, L ++ listBits l (orderW l).1.toNat)
theorem wRice_le {L : List Int} {v : Int} (hv : -2147483648 ≤ v ∧ v ≤ 2147483647) (k : Nat) (h : L.length ≤ 1048576) : (wRice L v k).2.length ≤ 1048576 := by
  unfold wRice
  split
  · exact h
  · have := word_length hv k
    rw [List.length_append]; omega
theorem wPut_le {L : List Int} (v n : Int) (h : L.length ≤ 1048576) : (wPut L v n).2.length ≤ 1048576 := by
  unfold wPut
  split
  · exact h
  · unfold wput putL
    dsimp only
    split
    · exact h
    · rw [List.length_append]; omega
theorem wordsStep_le (k : Nat) : ∀ {x L : List Int}, smallL x → L.length ≤ 1048576 → (wordsStep L x k).length ≤ 1048576
  | [], L, _, h => h
  | v :: x, L, hs, h => wordsStep_le k (x := x) (fun y hy => hs y (by simp [hy])) (wRice_le (hs v (by simp)) k h)
theorem partStep_le {x L : List Int} (hs : smallL x) (h : L.length ≤ 1048576) : (partStep L x).length ≤ 1048576 := wordsStep_le _ hs (wPut_le _ _ h)
theorem wordsStep_snoc (L x : List Int) (k : Nat) (v : Int) : wordsStep L (x ++ [v]) k = (wRice (wordsStep L x k) v k).2 := by unfold wordsStep; rw [List.foldl_append]; rfl
theorem partsStep_le {l : List Int} (hs : smallL l) (p : Nat) : ∀ {is : List Nat} {L : List Int}, L.length ≤ 1048576 → (partsStep l p L is).length ≤ 1048576
  | [], L, h => h
  | i :: is, L, h => partsStep_le hs p (is := is) (partStep_le (partL_small hs p i) h)
theorem partsStep_snoc (l : List Int) (p : Nat) (L : List Int) (is : List Nat) (i : Nat) : partsStep l p L (is ++ [i]) = partStep (partsStep l p L is) (partL l p i) := by unfold partsStep; rw [List.foldl_append]; rfl
theorem words_length {x : List Int} (hs : smallL x) {k : Nat} : ((wordsBits x k).length : Int) = sumW x k := by
  induction x with
  | nil => simp [wordsBits, sumW]
  | cons v x ih =>
    have h1 := word_length (hs v (by simp)) k
    have h2 := ih (fun y hy => hs y (by simp [hy]))
    rw [sumW_cons]
    unfold wordsBits at *
    rw [List.flatMap_cons, List.length_append]
    omega
theorem bestW_val {x : List Int} : (bestW x).2 = sumW x (bestW x).1.toNat := by
  unfold bestW
  refine iter_inv (fun s : Int × Int => s.2 = sumW x s.1.toNat) 14 1 _ (fun s j _ _ hs => ?_) rfl
  unfold bstep
  split
  · simp
  · exact hs
theorem part_length {x : List Int} (hs : smallL x) : ((partBits x).length : Int) = costP x := by
  have := words_length hs (k := (bestW x).1.toNat)
  unfold partBits costP
  rw [List.length_append, numb_length, bestW_val]
  omega
theorem words_fit (k : Nat) (hk : k ≤ 14) : ∀ {x L : List Int}, smallL x → (L.length : Int) + sumW x k ≤ 1048576 → wordsStep L x k = L ++ wordsBits x k
  | [], L, _, _ => by simp [wordsStep, wordsBits]
  | v :: x, L, hs, h => by
    rw [sumW_cons] at h
    have hx : smallL x := fun y hy => hs y (by simp [hy])
    have h0 := (sumW_bound hx hk).1
    have h1 := word_length (hs v (by simp)) k
    have e : (wRice L v k).2 = L ++ word v k := by unfold wRice; rw [if_neg (by omega)]
    have := words_fit k hk (x := x) (L := L ++ word v k) hx (by rw [List.length_append]; omega)
    show wordsStep (wRice L v k).2 x k = _
    rw [e, this]
    unfold wordsBits
    rw [List.flatMap_cons, List.append_assoc]
theorem part_fit {x L : List Int} (hs : smallL x) (h : (L.length : Int) + costP x ≤ 1048576) : partStep L x = L ++ partBits x := by
  obtain ⟨⟨k, hk, hk14⟩, hb⟩ := bestW_bound hs
  have hv := @bestW_val x
  unfold costP at h
  unfold partStep partBits
  rw [hk, Int.toNat_natCast] at *
  have e : (wPut L (k : Int) 4).2 = L ++ numb (k : Int) 4 := by
    have := wPut_ok L (k : Int) 4 (by omega) (by omega) (by omega)
    rw [show ((4 : Nat) : Int) = 4 from rfl] at this
    rw [this]
  rw [e, words_fit k hk14 hs (by rw [List.length_append, numb_length]; omega), List.append_assoc]
theorem parts_fit {l : List Int} (hs : smallL l) (hl : l.length ≤ 100000) (p : Nat) : ∀ {is : List Nat} {L : List Int}, (L.length : Int) + csum l p is ≤ 1048576 → partsStep l p L is = L ++ partsBits l p is
  | [], L, _ => by simp [partsStep, partsBits]
  | i :: is, L, h => by
    have hc : csum l p (i :: is) = costP (partL l p i) + csum l p is := by unfold csum; simp
    have h0 := (csum_bound hs hl p is).1
    rw [hc] at h
    have h1 := part_length (partL_small hs p i)
    have := parts_fit hs hl p (is := is) (L := L ++ partBits (partL l p i)) (by rw [List.length_append]; omega)
    show partsStep l p (partStep L (partL l p i)) is = _
    rw [part_fit (partL_small hs p i) (by omega), this]
    unfold partsBits
    rw [List.flatMap_cons, List.append_assoc]
theorem list_fit {l : List Int} (hs : smallL l) (hl : l.length ≤ 100000) {p : Nat} (hp : p ≤ 3) {L : List Int} (h : (L.length : Int) + wholeW l p ≤ 1048576) :
    partsStep l p (wPut L (p : Int) 2).2 (List.range' 0 (2 ^ p)) = L ++ listBits l p := by
  rw [wholeW_csum] at h
  have h0 := (csum_bound hs hl p (List.range' 0 (2 ^ p))).1
  have e : (wPut L (p : Int) 2).2 = L ++ numb (p : Int) 2 := by
    have := wPut_ok L (p : Int) 2 (by omega) (by omega) (by omega)
    rw [show ((2 : Nat) : Int) = 2 from rfl] at this
    rw [this]
  rw [e, parts_fit hs hl p (by rw [List.length_append, numb_length]; omega)]
  unfold listBits
  rw [List.append_assoc]
theorem listBits_length {l : List Int} (hs : smallL l) (p : Nat) : ((listBits l p).length : Int) = wholeW l p := by
  rw [wholeW_csum]
  unfold listBits
  rw [List.length_append, numb_length]
  have : ∀ is : List Nat, ((partsBits l p is).length : Int) = csum l p is := by
    intro is
    induction is with
    | nil => simp [partsBits, csum]
    | cons i is ih =>
      have h1 := part_length (partL_small hs p i)
      have hc : csum l p (i :: is) = costP (partL l p i) + csum l p is := by unfold csum; simp
      unfold partsBits at *
      rw [List.flatMap_cons, List.length_append, hc]
      omega
  have := this (List.range' 0 (2 ^ p))
  omega
theorem take_snoc {X : List Int} {j : Nat} (h : j < X.length) : X.take (j + 1) = X.take j ++ [X.getD j 0] := by
  rw [List.take_add_one, List.getD_eq_getElem?_getD, List.getElem?_eq_getElem h]; rfl
theorem smallL_getD {X : List Int} (h : smallL X) {j : Nat} (hj : j < X.length) : -2147483648 ≤ X.getD j 0 ∧ X.getD j 0 ≤ 2147483647 := by
  rw [List.getD_eq_getElem?_getD, List.getElem?_eq_getElem hj]; exact h _ (List.getElem_mem hj)
abbrev wBox (p : Nat) : Obj := .cells #[.pointer (some ⟨p, 0, none⟩)] 32 (0, 0)
theorem WrTo.keepsFrom' {W W' : World} {S1 : Nat → Prop} {p B : Nat} {L L' : List Int} (h0 : Wr W S1 p L) (h : WrTo W S1 p L' W') : KeepsFrom B W W' := by
  obtain ⟨S', _, _, f⟩ := h
  refine ⟨f.size, fun i o _ hi ho => ?_⟩
  rw [f.block i (lt_of_block hi) ?_]
  · exact hi
  · rintro (rfl | q)
    · obtain ⟨v, hk, _⟩ := h0.blk
      rw [hi] at hk; cases hk; cases ho
    · obtain ⟨cells, hk⟩ := h0.typed i q
      rw [hi] at hk; cases hk; cases ho
attribute [local go_sem] Oper.semAt_some
theorem Write_any5 (S : Nat → Prop) (pw : Nat) (L : List Int) (A : Option Addr) (c : Nat) (l : List Int) (w : World) (hW : Wr w S pw L) (hL : L.length ≤ 1048576)
    (hC : ∀ W, Fr (fun k => k = pw ∨ S k) w W → Kd.C (Kd.int .i64) W A l.length l) (hc : l.length ≤ c) (hl : l.length ≤ 1000000000) :
    Calls Tryz.prog 100 #[.pointer (some ⟨pw, 0, none⟩), .slice A l.length c] w fun e w' => e = .returned (.int .i64 (fWrite L l).1) ∧ WrTo w S pw (fWrite L l).2 w' := by
  have hC0 := hC w (Fr.refl _ _)
  have hpl := hW.p_lt
  obtain ⟨bw, hbw⟩ : ∃ bw, bw = w.heap.size := ⟨_, rfl⟩
  obtain ⟨w1, hw1⟩ : ∃ w1, w1 = w.alloc (wBox pw) := ⟨_, rfl⟩
  have hb1 : Below w.heap.size w w1 := by rw [hw1]; exact below_alloc (Below.refl _ _) _
  have hk1 : w1.heap[bw]? = some (wBox pw) := by rw [hw1, hbw]; exact World.alloc_heap_new w _
  have HE1 : Aside0 (w.alloc (.cells #[.pointer (some ⟨pw, 0, none⟩)] 32) = w1) := ⟨hw1.symm⟩
  have HBW := Aside0.mk hbw
  have HW := Aside0.mk hW
  have HC := Aside0.mk hC
  have HB1 := Aside0.mk hb1
  have HK1 := Aside0.mk hk1
  have HPL := Aside0.mk hpl
  have HCH := Aside0.mk (check_any A c l w1 (Kd.C_below hC0 hb1) hl)
  have HFW : Aside0 (fWrite L l = if chk l ≠ 0 then (chk l, L) else if 1048576 < (L.length : Int) + (orderW l).2 then (2, L) else (0, L ++ listBits l (orderW l).1.toNat)) := ⟨rfl⟩
  generalize fWrite L l = fw at *
  have z0 : (w.alloc (.cells #[.pointer (some ⟨pw, 0, none⟩)] 32)).cell? ⟨w.heap.size, 0, none⟩ = some (.pointer (some ⟨pw, 0, none⟩)) := cell_of_one (World.alloc_heap_new w (wBox pw))
  clear hW hC hC0 hbw hw1 hb1 hk1 hpl
  by_cases hch : chk l = 0
  case neg =>
    rw [if_pos hch] at HFW
    have q1 : (chk l != 0) = true := by simpa using hch
    generalize chk l = ck at *
    clear hch
    go_enter Tryz.func100, Tryz.ntmps100
    go_wp2_with fail
    rw [HE1.out]
    refine HCH.out.mono ?_
    rintro e w2 ⟨rfl, hd⟩
    have HB2 := Aside0.mk (HB1.out.trans (hd.below.mono HB1.out.size))
    clear hd
    go_wp2_with fail
    go_ret
    rw [HFW.out]
    exact ⟨rfl, HW.out.wrTo HB2.out⟩
  obtain ⟨hl8, hs⟩ := chk_zero.1 hch
  rw [if_neg (by simp [hch])] at HFW
  rw [hch] at HCH
  have HOR := Aside0.mk (fun W hW' => order_any A c l W hW' hc hs (by omega))
  obtain ⟨⟨p, hp1, hp3, hdv, hp2⟩, hob⟩ := orderW_bound hs (by omega)
  have hfit := @list_fit l hs (by omega) p hp3 L
  rw [← hp2] at hfit
  have hz : 0 ≤ (orderW l).2 ∧ (orderW l).2 ≤ 45600034 := hob
  generalize orderW l = o at *
  obtain ⟨o1, cost⟩ := o
  dsimp only at hp1 HFW HOR hfit hz
  subst hp1
  rw [Int.toNat_natCast] at HFW
  have HLEN := Aside0.mk (fun W hW' => Len_any S pw L W hW')
  clear hch hdv hp2 hob
  by_cases hbig : 1048576 < (L.length : Int) + cost
  · rw [if_pos hbig] at HFW
    have d1 : decide (1048576 < (L.length : Int) + cost) = true := by simpa using hbig
    clear hbig hfit
    go_enter Tryz.func100, Tryz.ntmps100
    go_wp2_with fail
    rw [HE1.out, ← HBW.out]
    refine HCH.out.mono ?_
    rintro e w2 ⟨rfl, hd⟩
    have hk2 := blk_fr HK1.out (Fr.below hd.below (fun _ => False)) (fun h => h)
    have HB2 := Aside0.mk (HB1.out.trans (hd.below.mono HB1.out.size))
    have HK2 := Aside0.mk hk2
    clear hd hk2 z0
    go_wp2_with fail
    refine (HOR.out w2 (HC.out _ (Fr.below HB2.out _))).mono ?_
    rintro e w3 ⟨rfl, hb⟩
    have hk3 := blk_fr HK2.out (Fr.below hb (fun _ => False)) (fun h => h)
    have c3 := cell_of_one hk3
    have HB3 := Aside0.mk (HB2.out.trans (hb.mono HB2.out.size))
    clear hb hk3
    go_wp2_with fail
    refine (HLEN.out w3 (HW.out.below HB3.out)).mono ?_
    rintro e w4 ⟨rfl, hw⟩
    obtain rfl := hw.symm
    go_wp2_with fail
    go_ret
    rw [HFW.out]
    exact ⟨rfl, HW.out.wrTo HB3.out⟩
  rw [if_neg hbig] at HFW
  have d1 : decide (1048576 < (L.length : Int) + cost) = false := by simpa using hbig
  have HFIT := Aside0.mk (hfit (by omega))
  clear hbig hfit
  obtain ⟨ep, hep⟩ : ∃ x, x = (wPut L (p : Int) 2).1 := ⟨_, rfl⟩
  obtain ⟨L2, hL2⟩ : ∃ x, x = (wPut L (p : Int) 2).2 := ⟨_, rfl⟩
  have hPT := fun S' W hW' => Put_any S' pw L (p : Int) 2 W hW' hL
  rw [← hep, ← hL2] at hPT
  rw [← hL2] at HFIT
  have HL2 : Aside0 (L2.length ≤ 1048576) := ⟨by rw [hL2]; exact wPut_le _ _ hL⟩
  have HPT := Aside0.mk hPT
  have HSM := Aside0.mk hs
  have h8 := pow_le8 hp3
  have HPL2 := Aside0.mk (partL_length l p)
  have HPSN := Aside0.mk (partsStep_snoc l p L2)
  have HPSL := Aside0.mk (fun is => partsStep_le hs p (is := is) HL2.out)
  have HWL := Aside0.mk (fun k (hk : S k) => HW.out.lt k hk)
  clear hep hL2 hPT
  refine (callsIn_wide (n := 5)).1 ?_
  refine callsIn_of_wp_marks Tryz.func100 rfl trivial ?_ rfl
  simp only [Tryz.ntmps100, List.size_toArray, List.length_cons, List.length_nil, Nat.reduceAdd, Nat.reduceSub, Array.replicate_succ, Array.replicate_zero, List.push_toArray, List.append_toArray, List.nil_append, List.cons_append]
  refine wpIn_wide.2 ?_
  go_wp2_with fail
  rw [HE1.out, ← HBW.out]
  refine HCH.out.mono ?_
  rintro e w2 ⟨rfl, hd⟩
  have hk2 := blk_fr HK1.out (Fr.below hd.below (fun _ => False)) (fun h => h)
  have HB2 := Aside0.mk (HB1.out.trans (hd.below.mono HB1.out.size))
  have HK2 := Aside0.mk hk2
  clear hd hk2 z0
  go_wp2_with fail
  refine (HOR.out w2 (HC.out _ (Fr.below HB2.out _))).mono ?_
  rintro e w3 ⟨rfl, hb⟩
  have hk3 := blk_fr HK2.out (Fr.below hb (fun _ => False)) (fun h => h)
  have c3 := cell_of_one hk3
  have HB3 := Aside0.mk (HB2.out.trans (hb.mono HB2.out.size))
  have HK3 := Aside0.mk hk3
  clear hb hk3
  go_wp2_with fail
  refine (HLEN.out w3 (HW.out.below HB3.out)).mono ?_
  rintro e w4 ⟨rfl, hw⟩
  obtain rfl := hw.symm
  go_wp2_with fail
  refine (HPT.out S w3 (HW.out.below HB3.out)).mono ?_
  rintro e w5 ⟨rfl, h5⟩
  have h5' : WrTo w S pw L2 w5 := WrTo.glue (fun k hk => .inl hk) (Fr.below HB3.out _) h5
  have hbwS : ¬ (bw = pw ∨ S bw) := by
    have := HBW.out; have := HPL.out
    rintro (o | o)
    · omega
    · have := HWL.out _ o; omega
  have hk5 : w5.heap[bw]? = some (wBox pw) := by
    obtain ⟨S', _, _, f⟩ := h5
    exact blk_fr HK3.out f hbwS
  have hsz5 : bw < w5.heap.size := lt_of_block hk5
  have H5 := Aside0.mk h5'
  have HK5 := Aside0.mk hk5
  clear h5 h5' hk5 c3 HB2 HB3 HK2 HK3
  obtain ⟨wz, hwz⟩ : ∃ wz, wz = (w5.alloc (listBox A l.length c)).alloc (intBox (p : Int)) := ⟨_, rfl⟩
  obtain ⟨bl, hbl⟩ : ∃ bl, bl = w5.heap.size := ⟨_, rfl⟩
  have hb5z : Below w5.heap.size w5 wz := by rw [hwz]; exact below_alloc (below_alloc (Below.refl _ _) _) _
  have hszz : wz.heap.size = w5.heap.size + 2 := by rw [hwz]; simp
  have hkl : wz.heap[bl]? = some (listBox A l.length c) := by rw [hwz, hbl]; exact blk_alloc' (World.alloc_heap_new w5 _) _
  have hkp : wz.heap[bl + 1]? = some (intBox (p : Int)) := by
    rw [hwz, hbl]
    have := World.alloc_heap_new (w5.alloc (listBox A l.length c)) (intBox (p : Int))
    simpa using this
  have hkw : wz.heap[bw]? = some (wBox pw) := blk_fr HK5.out (Fr.below hb5z (fun _ => False)) (fun h => h)
  have HN := Aside0.mk (show bw = w.heap.size ∧ bw < bl ∧ bl + 2 = wz.heap.size ∧ pw < bw from ⟨HBW.out, by omega, by omega, by have := HPL.out; have := HBW.out; omega⟩)
  have hTb : ∀ k, (k ≠ bl ∧ k ≠ bl + 1 ∧ (k = pw ∨ S k ∨ w.heap.size ≤ k)) → k ≠ bl ∧ k ≠ bl + 1 := fun k h => ⟨h.1, h.2.1⟩
  have HST := Aside0.mk (parts_stops 4 bl (bl + 1) A c l p hp3 (by omega) hc (fun k => k ≠ bl ∧ k ≠ bl + 1 ∧ (k = pw ∨ S k ∨ w.heap.size ≤ k)) wz hkl hkp (fun h => h.1 rfl) (fun h => h.2.1 rfl))
  have HJ0 : Aside0 (WrTo w S pw (partsStep l p L2 []) wz) := ⟨by
    obtain ⟨S', k1, k2, k3⟩ := H5.out
    exact ⟨S', k1.below hb5z, k2, k3.trans (Fr.below hb5z _)⟩⟩
  have HZL := Aside0.mk hkl
  have HZP := Aside0.mk hkp
  have HZW := Aside0.mk hkw
  have HWZ := Aside0.mk hwz
  have HBL := Aside0.mk hbl
  clear hwz hbl hb5z hszz hkl hkp hkw hTb hbwS hsz5
  go_wp2_with fail
  refine (parts_any A l.length c p w5).mono ?_
  rintro e w6 ⟨rfl, hw⟩
  rw [← HWZ.out] at hw
  obtain rfl := hw.symm
  rw [← HBL.out]
  go_wp2_with fail
  refine (wpIn_wide (n := 5)).1 ?_
  refine wpIn_rangeFunc_ownG rfl (by omega) (gf := 165) (lb := #[.pointer (some ⟨bl, 0, none⟩), .pointer (some ⟨bl + 1, 0, none⟩)]) rfl trivial (enters_of Tryz.func165 (by kernel_rfl) rfl)
    HST.out (fun h k => h.trans k) ?hKb (Below.refl wz.heap.size wz) (fun _ => rfl)
    (fun pre W => (WrTo w S pw (partsStep l p L2 (pre.map (·.1))) W ∧ wz.heap.size ≤ W.heap.size) ∧ W.heap[bw]? = some (wBox pw) ∧ W.heap[bl]? = some (listBox A l.length c) ∧ W.heap[bl + 1]? = some (intBox (p : Int)))
    (fun _ _ _ => False) ?hI (fun _ _ _ _ _ hs _ _ => hs) ⟨⟨HJ0.out, Nat.le_refl _⟩, HZW.out, HZL.out, HZP.out⟩
    (fun i : PIx p => { tmps := #[.pointer (some ⟨pw, 0, none⟩), .slice A l.length c, .pointer (some ⟨bw, 0, none⟩), undef, .int .i64 0, .int .i64 0, .int .i64 (p : Int), .int .i64 cost, partV A c (partN l p) i.1, undef, undef, undef, undef, .pointer (some ⟨pw, 0, none⟩), .bool false, .slice A l.length c, .int .i64 0, .int .i64 0, .bool false, undef, .tuple #[.int .i64 (p : Int), .int .i64 cost], .slice A l.length c, .tuple #[.int .i64 (p : Int), .int .i64 cost], .int .i64 (p : Int), .int .i64 cost, .pointer (some ⟨pw, 0, none⟩), .int .i64 (L.length : Int), .int .i64 cost, .int .i64 ((L.length : Int) + cost), .bool false, .pointer (some ⟨pw, 0, none⟩), .int .i64 (p : Int), .int .i64 ep, .slice A l.length c, .int .i64 (p : Int), seqP bl (bl + 1), partV A c (partN l p) i.1, undef, undef, undef, undef, undef, undef, undef, undef, undef, undef, undef, undef, undef, undef, undef, undef, undef, undef, undef], defers := [] })
    ?assign ?body ?done ?stop
  case hKb =>
    intro W l' o o' hl' ho hc' _
    exact (Fr.refl _ _).grown (grownBy_putObj' W l' o') (fun k _ e => by cases e; have := HN.out; exact ⟨by omega, by omega, .inr (.inr (by omega))⟩)
  case hI =>
    rintro s X Y row ⟨⟨hw, hs4⟩, h1, h2, h3⟩ hg hrow
    exact ⟨⟨hw.own HPL.out hg (fun r e => ⟨by have := (hrow r e).1; have := HN.out; omega, (hrow r e).2⟩), Nat.le_trans hs4 hg.size⟩, own_cells (β := Unit) wz.heap.size bw _ _ _ () X Y row h1 hg hrow, own_cells (β := Unit) wz.heap.size bl _ _ _ () X Y row h2 hg hrow, own_cells (β := Unit) wz.heap.size (bl + 1) _ _ _ () X Y row h3 hg hrow⟩
  case assign =>
    intro l' x W K hK
    gi_wp2
    exact hK
  case body =>
    rintro l' pre i W ⟨⟨hw, hs4⟩, h1, h2, h3⟩ hlen
    obtain ⟨S1, hW1, hs1, hf1⟩ := hw
    have hnb : ∀ k, k = pw ∨ S1 k → k ≠ bw ∧ k ≠ bl ∧ k ≠ bl + 1 := by
      have := HN.out
      rintro k (o | o)
      · exact ⟨by omega, by omega, by omega⟩
      · obtain ⟨cells, hk⟩ := hW1.typed k o
        refine ⟨?_, ?_, ?_⟩ <;> (rintro rfl; first | (rw [h1] at hk; cases hk) | (rw [h2] at hk; cases hk) | (rw [h3] at hk; cases hk))
    have hXN := HPL2.out i.1 i.2
    have hXS := partL_small HSM.out p i.1
    have hXC := fun W' hf => part_C (HC.out W' hf) hc p i.1 i.2
    have hpm := param_any (pAt A c (partN l p) i.1) (c - i.1 * partN l p) (partL l p i.1) W (hXC W hf1) (by rw [hXN]; have := part_le l p i.1 i.2; omega) hXS (by have := partL_len_le l p i.1; omega)
    obtain ⟨⟨kk, hkk, hkk14⟩, _⟩ := bestW_bound hXS
    have hL1 := HPSL.out (pre.map (·.1))
    have hsn : partsStep l p L2 ((pre ++ [i]).map (·.1)) = partStep (partsStep l p L2 (pre.map (·.1))) (partL l p i.1) := by rw [List.map_append]; exact HPSN.out _ i.1
    unfold partStep at hsn
    rw [hkk, Int.toNat_natCast] at hsn
    have hNl := partN_le l p
    rw [hXN] at hpm hXC
    rw [hkk] at hpm
    generalize (bestW (partL l p i.1)).2 = x at *
    generalize partsStep l p L2 (pre.map (·.1)) = L1 at *
    generalize partL l p i.1 = X at *
    clear hkk
    have HXC := Aside0.mk hXC
    have HXS := Aside0.mk hXS
    have HPM := Aside0.mk hpm
    have HW1 := Aside0.mk hW1
    have HS1 := Aside0.mk hs1
    have HF1 := Aside0.mk hf1
    have H1 := Aside0.mk h1
    have HNB := Aside0.mk hnb
    have HSN := Aside0.mk hsn
    have HL1 := Aside0.mk hL1
    have HS4 := Aside0.mk hs4
    have H2 := Aside0.mk h2
    have H3 := Aside0.mk h3
    have HXN := Aside0.mk hXN
    clear hXC hXS hpm hW1 hs1 hf1 h1 h2 h3 hnb hsn hL1 hs4 hXN
    gi_wp2
    refine ⟨trivial, ?_⟩
    have hcall := callsIn_wide (n := 2).2 HPM.out
    refine CallsIn.mono (show CallsIn (Fence.wide.inRound l') 2 Tryz.prog _ _ W _ from hcall) ?_
    clear hcall
    rintro e W1 ⟨rfl, hb⟩
    have hk := blk_fr H1.out (Fr.below hb (fun _ => False)) (fun h => h)
    have cb := cell_of_one hk
    have HBB := Aside0.mk hb
    have HKB := Aside0.mk hk
    clear hb hk
    gi_wp2
    refine ⟨trivial, ?_⟩
    have hcall := callsIn_wide (n := 2).2 (Put_any S1 pw L1 (kk : Int) 4 W1 (HW1.out.below HBB.out) HL1.out)
    refine CallsIn.mono (show CallsIn (Fence.wide.inRound l') 2 Tryz.prog _ _ W1 _ from hcall) ?_
    clear hcall
    rintro e W2 ⟨rfl, hd⟩
    obtain ⟨L3, hL3⟩ : ∃ x, x = (wPut L1 (kk : Int) 4).2 := ⟨_, rfl⟩
    have hl3 : L3.length ≤ 1048576 := by rw [hL3]; exact wPut_le _ _ HL1.out
    rw [← hL3] at hd
    have hsn := HSN.out
    rw [← hL3] at hsn
    have HSN2 := Aside0.mk hsn
    have hd2 : WrTo W S1 pw L3 W2 := WrTo.glue (fun k hk => .inl hk) (Fr.below HBB.out _) hd
    have HD := Aside0.mk hd2
    have HL3 := Aside0.mk hl3
    generalize (wPut L1 (kk : Int) 4).1 = e3 at *
    clear hL3 hl3 hsn hd hd2 HSN cb HKB HL1 HPM
    have hNl2 : partN l p ≤ 8192 := by omega
    obtain ⟨pa, hpa⟩ : ∃ x, x = pAt A c (partN l p) i.1 := ⟨_, rfl⟩
    have hpv : partV A c (partN l p) i.1 = .slice pa (partN l p) (c - i.1 * partN l p) := by rw [hpa]
    have hxc := HXC.out
    rw [← hpa] at hxc
    have HXC := Aside0.mk hxc
    rw [hpv]
    clear hpv hpa hxc
    generalize c - i.1 * partN l p = cc
    generalize partN l p = N at *
    gi_wp2
    gi_loopw [47] (fun u wr => ∃ j : Nat, u = .int .i64 (j : Int) ∧ j ≤ N ∧ Aside0 (WrTo W S1 pw (wordsStep L3 (X.take j) kk) wr)) (fun u _ => N - (intOf u).toNat)
    case atStart => exact ⟨0, rfl, Nat.zero_le _, ⟨HD.out⟩⟩
    case round =>
      obtain ⟨j, rfl, hj, HDJ⟩ := hrel
      obtain ⟨SJ, hWJ, hsJ, hfJ⟩ := HDJ.out
      have hkb := blk_fr H1.out hfJ (fun h => (HNB.out _ h).1 rfl)
      by_cases hlt : j < N
      · obtain ⟨_, _, _, hfw⟩ := WrTo.glue HS1.out HF1.out HDJ.out
        obtain ⟨ad, e, hx⟩ := at64 (HXC.out wr hfw) j hlt
        subst e
        have hlx : j < X.length := by rw [HXN.out]; exact hlt
        have cb := cell_of_one hkb
        have hput := put_any5 SJ pw (wordsStep L3 (X.take j) kk) (X.getD j 0) kk wr hWJ (wordsStep_le kk (smallL_take HXS.out j) HL3.out) (smallL_getD HXS.out hlx) hkk14
        rw [← wordsStep_snoc, ← take_snoc hlx] at hput
        have hput := hput.mono (fun e w' ⟨he, hw'⟩ => (⟨he, WrTo.glue hsJ hfJ hw'⟩ : e = Ending.returned (.int .i64 (wRice (wordsStep L3 (X.take j) kk) (X.getD j 0) kk).1) ∧ WrTo W S1 pw _ w'))
        have HPUT := Aside0.mk hput
        generalize (wRice (wordsStep L3 (X.take j) kk) (X.getD j 0) kk).1 = er at *
        generalize X.getD j 0 = xj at *
        clear hput hWJ hsJ hfJ hfw hkb hlx
        gi_wp2
        refine ⟨trivial, ?_⟩
        have hcall := callsIn_wide (n := 2).2 HPUT.out
        refine CallsIn.mono (show CallsIn (Fence.wide.inRound l') 2 Tryz.prog _ _ wr _ from hcall) ?_
        clear hcall
        rintro e W3 ⟨rfl, hd⟩
        gi_wp2
        go_roundw
        case rel => exact ⟨j + 1, by go_num, by omega, ⟨hd⟩⟩
        case measure => simp [intOf]; omega
      · obtain rfl : j = N := by omega
        have hx2 : X.take j = X := List.take_of_length_le (by rw [HXN.out]; exact Nat.le_refl _)
        rw [hx2] at HDJ
        gi_wp2
        refine ⟨WrTo.keepsFrom' HW1.out HDJ.out, hfJ.mono (fun k _ hk => ?_), ⟨?_, Nat.le_trans HS4.out hfJ.size⟩, hkb, blk_fr H2.out hfJ (fun h => (HNB.out _ h).2.1 rfl), blk_fr H3.out hfJ (fun h => (HNB.out _ h).2.2 rfl)⟩
        · have h1 := HNB.out k hk
          refine ⟨h1.2.1, h1.2.2, ?_⟩
          rcases hk with hk | hk
          · exact .inl hk
          · exact .inr (HS1.out k hk)
        · rw [HSN2.out]
          exact WrTo.glue HS1.out HF1.out HDJ.out
  case done =>
    rintro D ys W hD hys ⟨⟨hb, hs4⟩, h3⟩ hK
    rw [hys, HFIT.out] at hb
    have HB := Aside0.mk hb
    have HK := Aside0.mk hK
    clear h3 hb hK hys
    (try simp only [Exit.inBlock, Exit.then])
    go_wp2_with fail
    refine ⟨by simp, .inl ⟨_, _, rfl, run_takeDeferred HK.out, ?_⟩⟩
    refine ⟨_, results_tmp rfl _ _ _, by rw [HFW.out]; rfl, ?_⟩
    rw [HFW.out]
    exact HB.out.own HPL.out (grownBy_putObj' W D (.deferred none)) (fun r e => by cases e; exact ⟨by have := HN.out; omega, _, HK.out, rfl⟩)
  case stop =>
    rintro D c pre W _ _ h _
    exact h.elim
theorem least (f : Nat → Int) (D : Nat → Bool) (hD : D 0 = true) : ∀ n, ∃ k : Nat, k ≤ n ∧ D k = true ∧ iter (fun s p => if D p then bstep f s p else s) n 1 (0, f 0) = ((k : Int), f k) ∧ (∀ i ≤ n, D i = true → f k ≤ f i) ∧ (∀ i < k, D i = true → f k < f i)
  | 0 => ⟨0, Nat.le_refl _, hD, rfl, fun i hi _ => by rw [Nat.le_zero.1 hi]; exact Int.le_refl _, fun i hi => by omega⟩
  | n + 1 => by
    obtain ⟨k, hk, hDk, e, h1, h2⟩ := least f D hD n
    rw [iter_snoc, e, Nat.add_comm 1 n]
    by_cases hd : D (n + 1) = true
    · by_cases hlt : f (n + 1) < f k
      · refine ⟨n + 1, Nat.le_refl _, hd, ?_, fun i hi hDi => ?_, fun i hi hDi => ?_⟩
        · simp only [hd, if_true]; unfold bstep; simp only [hlt, if_true]
        · rcases Nat.lt_or_ge i (n + 1) with h | h
          · have := h1 i (by omega) hDi; omega
          · rw [show i = n + 1 by omega]; exact Int.le_refl _
        · have := h1 i (by omega) hDi; omega
      · refine ⟨k, by omega, hDk, ?_, fun i hi hDi => ?_, h2⟩
        · simp only [hd, if_true]; unfold bstep; simp only [hlt, if_false]
        · rcases Nat.lt_or_ge i (n + 1) with h | h
          · exact h1 i (by omega) hDi
          · rw [show i = n + 1 by omega]; omega
    · refine ⟨k, by omega, hDk, ?_, fun i hi hDi => ?_, h2⟩
      · simp only [hd]; rfl
      · rcases Nat.lt_or_ge i (n + 1) with h | h
        · exact h1 i (by omega) hDi
        · exact absurd (by rw [← show i = n + 1 by omega]; exact hDi) hd
theorem orderW_least (l : List Int) : ∃ p : Nat, p ≤ 3 ∧ divB l.length p = true ∧ orderW l = ((p : Int), wholeW l p) ∧ (∀ i ≤ 3, divB l.length i = true → wholeW l p ≤ wholeW l i) ∧ (∀ i < p, divB l.length i = true → wholeW l p < wholeW l i) :=
  least (wholeW l) (divB l.length) (by simp [divB, Nat.mod_one]) 3
theorem wholeW0_le {l : List Int} (hs : smallL l) : wholeW l 0 ≤ 6 + 57 * l.length := by
  have := partL_small hs 0 0
  have h2 := (bestW_bound this).2
  have h3 := partL_len_le l 0 0
  rw [wholeW_csum]
  have e : csum l 0 (List.range' 0 (2 ^ 0)) = costP (partL l 0 0) := by simp [csum]
  rw [e]; unfold costP; omega
attribute [local go_sem] Oper.semAt_some
def rWords (L : List Int) (k : Nat) : Nat → Nat → List Int → Int × List Int × Nat
  | 0, a, acc => (0, acc, a)
  | n + 1, a, acc => if (rRice L a k).2.1 ≠ 0 then ((rRice L a k).2.1, acc, a) else rWords L k n (rRice L a k).2.2 (acc ++ [(rRice L a k).1])
def rParts (L : List Int) (N : Nat) : Nat → Nat → List Int → Int × List Int × Nat
  | 0, a, acc => (0, acc, a)
  | m + 1, a, acc => if (rGet L a 4).2.1 ≠ 0 then ((rGet L a 4).2.1, acc, a) else if 14 < (rGet L a 4).1 then (4, acc, a)
    else if (rWords L (rGet L a 4).1.toNat N (rGet L a 4).2.2 acc).1 ≠ 0 then rWords L (rGet L a 4).1.toNat N (rGet L a 4).2.2 acc
    else rParts L N m (rWords L (rGet L a 4).1.toNat N (rGet L a 4).2.2 acc).2.2 (rWords L (rGet L a 4).1.toNat N (rGet L a 4).2.2 acc).2.1
def partDone (L : List Int) (N m : Nat) (r : Int × List Int × Nat) : Int × List Int × Nat := if r.1 ≠ 0 then r else rParts L N m r.2.2 r.2.1
def rList (L : List Int) (a count : Nat) : Int × List Int × Nat :=
  if (rGet L a 2).2.1 ≠ 0 then ((rGet L a 2).2.1, [], a) else if divB count (rGet L a 2).1.toNat then rParts L (count / 2 ^ (rGet L a 2).1.toNat) (2 ^ (rGet L a 2).1.toNat) (rGet L a 2).2.2 [] else (4, [], a)
def fRead (L : List Int) (a : Nat) (count : Int) : List Int × Int × Nat :=
  if count < 0 ∨ 8192 < count then ([], 1, a) else if (rList L a count.toNat).1 ≠ 0 then ([], (rList L a count.toNat).1, a) else ((rList L a count.toNat).2.1, 0, (rList L a count.toNat).2.2)
theorem shr_p {p : Nat} (c : Nat) : (c : Int) / 2 ^ p = ((c / 2 ^ p : Nat) : Int) := by push_cast; rfl
theorem one_shl {p : Nat} (hp : p ≤ 3) : wrap64 (2 ^ p) = ((2 ^ p : Nat) : Int) := by
  have h : (2 : Int) ^ p = ((2 ^ p : Nat) : Int) := by push_cast; rfl
  have := pow_le8 hp
  rw [h]; exact wrap64_id (by omega) (by omega)
theorem rGet2 {L : List Int} {a : Nat} (h01 : is01 L) (h : (rGet L a 2).2.1 = 0) : ∃ p : Nat, p ≤ 3 ∧ (rGet L a 2).1 = p := by
  have := rGet_ok (n := 2) h01 h
  simp only [Int.reducePow] at this
  exact ⟨(rGet L a 2).1.toNat, by have h1 : (rGet L a ((2 : Nat) : Int)).1 = (rGet L a 2).1 := rfl; omega, by have h1 : (rGet L a ((2 : Nat) : Int)).1 = (rGet L a 2).1 := rfl; omega⟩
theorem rGet4 {L : List Int} {a : Nat} (h01 : is01 L) (h : (rGet L a 4).2.1 = 0) : ∃ k : Nat, k ≤ 15 ∧ (rGet L a 4).1 = k := by
  have := rGet_ok (n := 4) h01 h
  simp only [Int.reducePow] at this
  exact ⟨(rGet L a 4).1.toNat, by have h1 : (rGet L a ((4 : Nat) : Int)).1 = (rGet L a 4).1 := rfl; omega, by have h1 : (rGet L a ((4 : Nat) : Int)).1 = (rGet L a 4).1 := rfl; omega⟩
theorem RowV.mono {w : World} {base base' : Nat} {e : TypeId} {sz : Nat} {v : Value} {n : Nat} {fl : List Value} (h : RowV w base e sz v n fl) (hb : base' ≤ base) : RowV w base' e sz v n fl := by
  refine ⟨h.1, ?_⟩
  rcases h.2 with hn | ⟨g, cap, cur, rfl, hb', rest⟩
  · exact .inl hn
  · exact .inr ⟨g, cap, cur, rfl, Nat.le_trans hb hb', rest⟩
theorem row_more {W0 w w5 : World} {T : Nat → Prop} {v : Value} {l : List Int} {o : Obj} (hf : Fr T W0 w) (hv : RowV w W0.heap.size 3 1 v l.length (flatI l)) (hg : (w.alloc o).grownBy w5 v.ownBlock) :
    Fr T W0 w5 ∧ Fr (fun k => v.ownBlock = some k) w w5 :=
  ⟨(hf.alloc o).grown hg (fun k hk e => by have := (hv.block k e).2; omega), ((Fr.refl _ _).alloc o).grown hg (fun k _ e => e)⟩
theorem partsBits_range (l : List Int) (p i n : Nat) : partsBits l p (List.range' i (n + 1)) = partBits (partL l p i) ++ partsBits l p (List.range' (i + 1) n) := by
  unfold partsBits
  rw [List.range'_succ, List.flatMap_cons]
theorem wordsBits_drop {X : List Int} {j : Nat} (h : j < X.length) (k : Nat) : wordsBits (X.drop j) k = word (X.getD j 0) k ++ wordsBits (X.drop (j + 1)) k := by
  unfold wordsBits
  rw [List.drop_eq_getElem_cons h, List.flatMap_cons, List.getD_eq_getElem?_getD, List.getElem?_eq_getElem h]; rfl
theorem wordsBits_end {X : List Int} (k : Nat) : wordsBits (X.drop X.length) k = [] := by
  rw [List.drop_length]; rfl
theorem row_at {w : World} {base n c : Nat} {A : Option Addr} {ok : Nat → Prop} {P : List (List Int)} (h : Kd.N (Kd.slice 3 (Kd.int .i64)) 22 w base ok (.slice A n c) P) (i : Nat) (hi : i < P.length) :
    ∃ ad A0 c0, A = some ad ∧ w.cell? (ad.add i) = some (.slice A0 (P.getD i []).length c0) ∧ (P.getD i []).length ≤ c0 ∧ Kd.F (Kd.int .i64) w ok A0 (P.getD i []).length (P.getD i []) := by
  have hn := (Kd.N_reads' h).1
  have h0 : (0 : Int) ≤ (i : Int) := by omega
  have h1 : (i : Int) < (n : Nat) := by omega
  obtain ⟨ad, A0, c0, e, hx, hl, hC⟩ := at_L1 (Kd.N_reads' h).2.2 (i : Int) h0 (by rw [← hn]; exact h1)
  subst e
  obtain ⟨ce, hce, hM, hcc⟩ := Kd.N_get h [] (i : Int) h0 h1
  obtain ⟨ua, uc, rfl, ul, ge⟩ := Kd.FK_slice_open hM
  have hv := hcc 0 _ rfl
  rw [Nat.add_zero, show (Kd.slice 3 (Kd.int .i64)).sz = 1 from rfl, Nat.mul_one] at hv
  have hv := Option.some.inj (hv.symm.trans hx)
  injection hv with hva _ hvc
  rw [hva] at ge
  rw [hvc] at ul
  rw [Int.toNat_natCast] at hx
  exact ⟨ad, A0, c0, rfl, hx, hl, Kd.F_mono ge (fun _ hk => hk.1)⟩
theorem RWrite_any5 (S : Nat → Prop) (q : Nat) (L : List Int) (A : Option Addr) (c : Nat) (l : List Int) (w : World) (okl : Nat → Prop) (hW : RWr w S q L) (hL : L.length ≤ 1048576)
    (hF : Kd.F (Kd.int .i64) w okl A l.length l) (hok : ∀ k, okl k → k < w.heap.size → ¬ (k = q ∨ S k)) (hc : l.length ≤ c) (hl : l.length ≤ 1000000000) :
    Calls Tryz.prog 105 #[.pointer (some ⟨q, 0, none⟩), .slice A l.length c] w fun e w' => e = .returned (.int .i64 (fWrite L l).1) ∧ RWrTo w S q (fWrite L l).2 w' := by
  have hF := Kd.F_bound hF
  have hC0 : Kd.C (Kd.int .i64) w A l.length l := Kd.F_now hF
  have HW := Aside0.mk hW
  have HF := Aside0.mk hF
  have HOK := Aside0.mk hok
  have HCH := Aside0.mk (shawmref05_listed.calls (l.length + 1) A c l (chk l) w hC0 hc (ref_listed l _ (by omega) (by omega)))
  have HFW : Aside0 (fWrite L l = if chk l ≠ 0 then (chk l, L) else if 1048576 < (L.length : Int) + (orderW l).2 then (2, L) else (0, L ++ listBits l (orderW l).1.toNat)) := ⟨rfl⟩
  generalize fWrite L l = fw at *
  clear hW hF hok hC0
  by_cases hch : chk l = 0
  case neg =>
    rw [if_pos hch] at HFW
    have q1 : (chk l != 0) = true := by simpa using hch
    generalize chk l = ck at *
    clear hch
    go_enter Tryz.func105, Tryz.ntmps105
    go_wp2_with fail
    refine HCH.out.mono ?_
    rintro e w2 ⟨rfl, hd⟩
    have HB2 := Aside0.mk hd.below
    clear hd
    go_wp2_with fail
    go_ret
    rw [HFW.out]
    exact ⟨rfl, HW.out.wrTo HB2.out⟩
  obtain ⟨hl8, hs⟩ := chk_zero.1 hch
  rw [if_neg (by simp [hch])] at HFW
  rw [hch] at HCH
  have HOR := Aside0.mk (fun W hW' => shawmref05_order.calls 100051 A c l (orderW l).1 (orderW l).2 W hW' hc (ref_order l _ hs (by omega) (by omega)))
  obtain ⟨⟨p, hp1, hp3, hdv, hp2⟩, hob⟩ := orderW_bound hs (by omega)
  have hlb := listBits_length hs p
  rw [← hp2] at hlb
  have hz : 0 ≤ (orderW l).2 ∧ (orderW l).2 ≤ 45600034 := hob
  generalize orderW l = o at *
  obtain ⟨o1, cost⟩ := o
  dsimp only at hp1 HFW HOR hlb hz
  subst hp1
  rw [Int.toNat_natCast] at HFW
  have HLEN := Aside0.mk (fun W hW' => RLen_any S q L W hW')
  clear hch hdv hp2 hob
  by_cases hbig : 1048576 < (L.length : Int) + cost
  · rw [if_pos hbig] at HFW
    have d1 : decide (1048576 < (L.length : Int) + cost) = true := by simpa using hbig
    clear hbig hlb
    go_enter Tryz.func105, Tryz.ntmps105
    go_wp2_with fail
    refine HCH.out.mono ?_
    rintro e w2 ⟨rfl, hd⟩
    have HB2 := Aside0.mk hd.below
    clear hd
    go_wp2_with fail
    refine (HOR.out w2 (Kd.F_now (Kd.F_below HF.out HB2.out))).mono ?_
    rintro e w3 ⟨rfl, hb⟩
    have HB3 := Aside0.mk (HB2.out.trans (hb.mono HB2.out.size))
    clear hb
    go_wp2_with fail
    refine (HLEN.out w3 (HW.out.below HB3.out)).mono ?_
    rintro e w4 ⟨rfl, hw⟩
    obtain rfl := hw.symm
    go_wp2_with fail
    go_ret
    rw [HFW.out]
    exact ⟨rfl, HW.out.wrTo HB3.out⟩
  rw [if_neg hbig] at HFW
  have d1 : decide (1048576 < (L.length : Int) + cost) = false := by simpa using hbig
  have h8 := pow_le8 hp3
  obtain ⟨T, hT⟩ : ∃ T, T = L ++ listBits l p := ⟨_, rfl⟩
  have hTL : T.length ≤ 1048576 := by rw [hT, List.length_append]; omega
  have hT0 : (L ++ numb (p : Int) 2) ++ partsBits l p (List.range' 0 (2 ^ p)) = T := by rw [hT]; unfold listBits; rw [List.append_assoc]
  rw [← hT] at HFW
  have hput2 := wPut_ok L (p : Int) 2 (by omega) (by omega) (by rw [← hT0, List.length_append, List.length_append, numb_length] at hTL; omega)
  rw [show ((2 : Nat) : Int) = 2 from rfl] at hput2
  have HPT := Aside0.mk (fun W hW' => RPut_any S q L (p : Int) 2 W hW' hL)
  rw [hput2] at HPT
  have HPA := Aside0.mk (fun W hv => shawmref05_parts.calls 9 (fun k => okl k ∧ k < w.heap.size) A c l (p : Int) (partsL l p) W hv (ref_parts l p 9 (by omega) hp3 (by omega)))
  have HT0 := Aside0.mk hT0
  have HTL := Aside0.mk hTL
  have HSM := Aside0.mk hs
  have HPLN := Aside0.mk (partsL_length l p)
  have HPGE : Aside0 (∀ i, i < 2 ^ p → (partsL l p).getD i [] = partL l p i) := ⟨fun i hi => by rw [List.getD_eq_getElem?_getD, List.getElem?_eq_getElem (by rw [partsL_length]; exact hi), partsL_getElem]; rfl⟩
  have HPLL := Aside0.mk (partL_length l p)
  have hpln := partsL_length l p
  have HNL := Aside0.mk (partN_le l p)
  clear hbig hlb hT hTL hT0 hput2
  generalize hPP : partsL l p = PP at *
  clear hPP
  generalize 2 ^ p = M at *
  go_enter Tryz.func105, Tryz.ntmps105
  go_wp2_with fail
  refine HCH.out.mono ?_
  rintro e w2 ⟨rfl, hd⟩
  have HB2 := Aside0.mk hd.below
  clear hd
  go_wp2_with fail
  refine (HOR.out w2 (Kd.F_now (Kd.F_below HF.out HB2.out))).mono ?_
  rintro e w3 ⟨rfl, hb⟩
  have HB3 := Aside0.mk (HB2.out.trans (hb.mono HB2.out.size))
  clear hb HB2
  go_wp2_with fail
  refine (HLEN.out w3 (HW.out.below HB3.out)).mono ?_
  rintro e w4 ⟨rfl, hw⟩
  obtain rfl := hw.symm
  go_wp2_with fail
  refine (HPT.out w3 (HW.out.below HB3.out)).mono ?_
  rintro e w5 ⟨rfl, S1, hW1, hs1, hf1⟩
  have hs1' : ∀ k, S1 k → S k ∨ w.heap.size ≤ k := fun k hk => by
    rcases hs1 k hk with o | o
    · exact .inl o
    · exact .inr (Nat.le_trans HB3.out.size o)
  have hf1' : Fr (fun k => k = q ∨ S k) w w5 := (Fr.below HB3.out _).trans hf1
  have HW1 := Aside0.mk hW1
  have HS1 := Aside0.mk hs1'
  have HF1 := Aside0.mk hf1'
  have hV : Kd.V (Kd.int .i64) 3 w5 w5.heap.size (fun k => okl k ∧ k < w.heap.size) (.slice A l.length c) l := Kd.V_mk hc (Kd.F_step HF.out (fun k hk hlt => hf1'.block k hlt (HOK.out k hk.1 hk.2)))
  have HV := Aside0.mk hV
  clear hW1 hs1 hs1' hf1 hf1' hV
  go_wp2_with fail
  refine (HPA.out w5 HV.out).mono ?_
  rintro e w6 ⟨v6, rfl, hN, hb6⟩
  obtain ⟨A6, c6, rfl⟩ := Kd.N_slice hN
  have hql := HW.out.p_lt
  have hN2 : ∃ ok6 : Nat → Prop, Kd.N (Kd.slice 3 (Kd.int .i64)) 22 w6 w5.heap.size ok6 (.slice A6 PP.length c6) PP ∧ (∀ k, ok6 k → ¬ (k = q ∨ S1 k)) ∧ ∀ k, ok6 k → k < w6.heap.size := ⟨_, Kd.N_bound hN, by
    have hw5 := HF1.out.size
    rintro k ⟨o | o, hk6⟩ (hq | hq)
    · exact HOK.out k o.1 o.2 (.inl hq)
    · rcases HS1.out k hq with z | z
      · exact HOK.out k o.1 o.2 (.inr z)
      · omega
    · omega
    · have := HW1.out.lt k hq; omega, fun k hk => hk.2⟩
  obtain ⟨ok6, hN6, hok6, hsz6⟩ := hN2
  have HSZ6 := Aside0.mk hsz6
  have HN6 := Aside0.mk hN6
  have HOK6 := Aside0.mk hok6
  have HB6 := Aside0.mk hb6
  have HW6 := Aside0.mk (HW1.out.below hb6)
  have HF6 := Aside0.mk (HF1.out.trans (Fr.below hb6 _))
  have HST : Aside0 (RWrTo w6 S1 q (L ++ numb (p : Int) 2) w6) := ⟨HW6.out.wrTo (Below.refl _ _)⟩
  clear hN hb6 hN6 hok6 hsz6 HW1 hql
  go_wp2_with fail
  go_loopw [38] (fun u wr => ∃ (i : Nat) (C : List Int), u = .int .i64 (i : Int) ∧ i ≤ M ∧ Aside0 (C ++ partsBits l p (List.range' i (M - i)) = T) ∧ Aside0 (RWrTo w6 S1 q C wr)) (fun u _ => M - (intOf u).toNat)
  case atStart => exact ⟨0, _, rfl, by omega, HT0, HST⟩
  case round =>
    obtain ⟨i, C, rfl, hi, HCT, HWC⟩ := hrel
    by_cases hlt : i < M
    · obtain ⟨S2, hW2, hs2, hf2⟩ := HWC.out
      obtain ⟨ad, A0, c0, e, hx, hl0, hF0⟩ := row_at (Kd.N_step HN6.out (fun k hk hlt => hf2.block k hlt (HOK6.out k hk))) i (by omega)
      subst e
      rw [HPGE.out i hlt] at hx hl0 hF0
      have hXS := partL_small HSM.out p i
      have hXN := HPLL.out i hlt
      have hct := HCT.out
      rw [show M - i = (M - (i + 1)) + 1 by omega, partsBits_range] at hct
      generalize hR : partsBits l p (List.range' (i + 1) (M - (i + 1))) = R at *
      have HR := Aside0.mk hR
      obtain ⟨⟨kk, hkk, hkk14⟩, _⟩ := bestW_bound hXS
      have hbest := fun W (h : Kd.C (Kd.int .i64) W A0 (partL l p i).length (partL l p i)) => shawmref05_best.calls ((partL l p i).length + 16) A0 c0 (partL l p i) (bestW (partL l p i)).1 (bestW (partL l p i)).2 W h hl0 (ref_best _ _ hXS (by have := HNL.out; omega) (by omega))
      unfold partBits at hct
      rw [hkk] at hbest hct
      rw [Int.toNat_natCast] at hct
      have hNl := HNL.out
      generalize (bestW (partL l p i)).2 = bc at *
      generalize partL l p i = X at *
      have hXl : X.length ≤ 8192 := by omega
      have hct2 : (C ++ numb (kk : Int) 4) ++ wordsBits X kk ++ R = T := by rw [← hct]; simp only [List.append_assoc]
      have hput4 := wPut_ok C (kk : Int) 4 (by omega) (by omega) (by have := HTL.out; rw [← hct2, List.length_append, List.length_append, List.length_append, numb_length] at this; omega)
      rw [show ((4 : Nat) : Int) = 4 from rfl] at hput4
      have hC2 : C.length ≤ 1048576 := by have := HTL.out; rw [← hct2, List.length_append, List.length_append, List.length_append] at this; omega
      have hput := fun W h => RPut_any S2 q C (kk : Int) 4 W h hC2
      rw [hput4] at hput
      have HPUT := Aside0.mk hput
      have HBEST := Aside0.mk hbest
      have HCT2 := Aside0.mk hct2
      have HW2 := Aside0.mk hW2
      have HS2 := Aside0.mk hs2
      have HF2 := Aside0.mk hf2
      have HF0 := Aside0.mk hF0
      have HXS := Aside0.mk hXS
      clear hct hct2 hput4 hput hbest hW2 hs2 hf2 hF0 hXS hkk hR hC2 hXN hNl
      go_wp2_with fail
      refine (HBEST.out wr (Kd.F_now HF0.out)).mono ?_
      rintro e w7 ⟨rfl, hd⟩
      have HB7 := Aside0.mk hd.below
      clear hd hx
      go_wp2_with fail
      refine (HPUT.out w7 (HW2.out.below HB7.out)).mono ?_
      rintro e w8 ⟨rfl, h8⟩
      have HF8 := Aside0.mk (RWrTo.glue HS2.out HF2.out (RWrTo.glue (fun k hk => .inl hk) (Fr.below HB7.out _) h8))
      clear h8
      go_wp2_with fail
      obtain ⟨wo, rfl⟩ : ∃ wo : World, wo = wr := ⟨_, rfl⟩
      go_loopw [52] (fun u wr => ∃ (j : Nat) (D : List Int), u = .int .i64 (j : Int) ∧ j ≤ X.length ∧ Aside0 (D ++ wordsBits (X.drop j) kk ++ R = T) ∧ Aside0 (RWrTo w6 S1 q D wr)) (fun u _ => X.length - (intOf u).toNat)
      case atStart => exact ⟨0, _, rfl, by omega, HCT2, HF8⟩
      case round =>
        obtain ⟨j, D, rfl, hj, HDT, HWD⟩ := hrel
        by_cases hjl : j < X.length
        · obtain ⟨S3, hW3, hs3, hf3⟩ := HWD.out
          have hF3 : Kd.C (Kd.int .i64) wr A0 X.length X := Kd.F_now (Kd.F_step HF0.out (fun k hk hlt => (hf3.block k (HSZ6.out k hk) (HOK6.out k hk)).trans (HF2.out.block k (HSZ6.out k hk) (HOK6.out k hk)).symm))
          obtain ⟨ad2, e, hx2⟩ := at64 hF3 j hjl
          subst e
          have hdt := HDT.out
          rw [wordsBits_drop hjl] at hdt
          have hxs := smallL_getD HXS.out hjl
          have hlw := word_length hxs kk
          have hdt2 : (D ++ word (X.getD j 0) kk) ++ wordsBits (X.drop (j + 1)) kk ++ R = T := by rw [← hdt]; simp only [List.append_assoc]
          have hput := rput_any5 S3 q D (X.getD j 0) kk wr hW3 hxs hkk14 (by have := HTL.out; rw [← hdt2, List.length_append, List.length_append, List.length_append] at this; omega)
          have HPUT := Aside0.mk hput
          generalize X.getD j 0 = xj at *
          generalize word xj kk = wd at *
          have HS3 := Aside0.mk hs3
          have HF3 := Aside0.mk hf3
          have HDT2 := Aside0.mk hdt2
          clear hdt hdt2 hlw hput hs3 hf3 hW3 hF3 hxs
          go_wp2_with fail
          refine HPUT.out.mono ?_
          rintro e w9 ⟨rfl, h9⟩
          have HF9 := Aside0.mk (RWrTo.glue HS3.out HF3.out h9)
          clear h9 hx2
          go_wp2_with fail
          go_roundw
          case rel => exact ⟨j + 1, _, by go_num, by omega, HDT2, HF9⟩
          case measure => simp [intOf]; omega
        · obtain rfl : j = X.length := by omega
          have hdt := HDT.out
          rw [wordsBits_end, List.append_nil] at hdt
          have HDT2 := Aside0.mk hdt
          clear hdt
          go_wp2_with fail
          go_roundw
          case rel => exact ⟨i + 1, D, by go_num, by omega, ⟨by rw [HR.out]; exact HDT2.out⟩, HWD⟩
          case measure => simp [intOf]; omega
    · obtain rfl : i = M := by omega
      have hct := HCT.out
      rw [Nat.sub_self] at hct
      have hct2 : C = T := by rw [← hct]; simp [partsBits]
      subst hct2
      go_wp2_with fail
      go_ret
      rw [HFW.out]
      exact ⟨rfl, RWrTo.glue HS1.out HF6.out HWC.out⟩
theorem append_row (base : Nat) {S : Nat → Prop} (W : World) (v : Value) (xs ys : List Int) (A : Option Addr) (m c : Nat) (HO : Kd.R (Kd.int .u8) 5 W base S v xs) (hbw : base ≤ W.heap.size) (HR : Kd.C (Kd.int .u8) W A m ys) (hl : xs.length + m ≤ 140737488355328) :
    ∃ v1 w1, (Builtin.append_ #[54, 54] 54 #[v, .slice A m c]).run Tryz.prog W = .ok v1 w1 ∧ Kd.R (Kd.int .u8) 5 w1 base (fun k => S k ∨ k = W.heap.size) v1 (xs ++ ys) ∧ W.grownBy w1 v.ownBlock := by
  obtain ⟨i0, hi, hzz⟩ := Option.map_eq_some_iff.1 binfo
  simp only [Prod.mk.injEq] at hzz
  obtain ⟨hz0, hz1, hz2⟩ := hzz
  have HO' := Kd.own_of_R HO
  have HR' := Kd.reads_of_C (enc := Value.int .u8) (d := (0 : Int)) (h1 := fun _ => rfl) HR
  have hm : ys.length = m := HR'.1
  have ht := Tryz.underlying54
  rcases A with _ | ad
  · have h0 : m = 0 := by
      rcases Nat.eq_zero_or_pos m with h0 | h0
      · exact h0
      · obtain ⟨ad, h, _⟩ := HR'.2.2 h0
        cases h
    subst h0
    obtain rfl : ys = [] := List.eq_nil_of_length_eq_zero hm
    refine ⟨v, W, ?_, by rw [List.append_nil]; exact Kd.R_mono HO (fun k hk => .inl hk), World.grownBy.refl W _⟩
    rcases HO'.2 with ⟨rfl, hn⟩ | ⟨g, cap, cur, rfl, _, _, hnc, _⟩
    · simp [Builtin.append_, run_underlying ht, sizeOf, typeInfo, hi, Builtin.lenOf, Builtin.firstCells]
    · simp [Builtin.append_, run_underlying ht, sizeOf, typeInfo, hi, Builtin.lenOf, Builtin.firstCells, hnc, storeCells]
  · have hcells : ∀ j u, (encs (Value.int .u8) ys)[j]? = some u → W.cell? (ad.add j) = some u := by
      intro j u hu
      have hj : j < ys.length := by
        rcases Nat.lt_or_ge j ys.length with h | h
        · exact h
        · simp [encs, List.getElem?_eq_none h] at hu
      obtain ⟨ad', h', hc⟩ := HR'.2.2 (by omega)
      obtain rfl := Option.some.inj h'
      rw [encs_get (d := (0 : Int)) ys j hj] at hu
      rw [← hu]
      exact hc j (by omega)
    obtain ⟨v1, w1, hr, h2, h3, _, h5⟩ := run_append_own_at (P := Tryz.prog) W base 54 54 5 i0 _ 1 1 ht hi hz0 hz1 hz2 rfl (by omega) v xs.length (encs (Value.int .u8) xs) HO' ad m c (encs (Value.int .u8) ys) (by simp [encs, hm]) hcells
      (by intro u hu; simp only [encs, List.mem_map] at hu; obtain ⟨q, _, rfl⟩ := hu; rfl) (by simp only [maxLen]; omega) (by omega) hbw
    refine ⟨v1, w1, hr, Kd.R_of_own (by simpa [encs, hm] using h2) (fun k hk => ?_), h3⟩
    rcases h5 with e | e
    · exact .inl (HO.1 k (by rw [← e]; exact hk))
    · rw [e] at hk; cases hk; exact .inr rfl
def shawmref20_listed.f (l0 : List Int) (l1 : List Int) : Option (List Int) := if l0.length ≤ 100000 ∧ l1.length ≤ 100000 ∧ (fWrite [] l1).2.length ≤ 1048576 then some (l0 ++ (fWrite [] l1).2) else none
theorem shawmref20_listed.calls (P0_ : Nat → Prop) (u9000_ : Value) (l0 : List Int) (A1 : Option Addr) (c1 : Nat) (l1 : List Int) (r : List Int) (w0 w : World) (hB : Below w0.heap.size w0 w) (ho0 : Kd.R (Kd.int .u8) 5 w w0.heap.size P0_ u9000_ l0) (hr1 : ∀ W_, Kept w W_ (fun k_ => P0_ k_) → Kd.C (Kd.int .i64) W_ A1 l1.length l1) (hc1 : l1.length ≤ c1) (h : shawmref20_listed.f l0 l1 = some r) :
    Calls Tryz.prog 87 #[u9000_, .slice A1 l1.length c1] w fun e w' => ∃ v0_ : Value, e = .returned (v0_) ∧ Kd.R (Kd.int .u8) 5 w' w0.heap.size (fun k_ => (P0_ k_ ∨ w.heap.size ≤ k_)) v0_ r ∧ Below w0.heap.size w0 w' ∧ Kept w w' (fun k_ => P0_ k_) := by
  unfold shawmref20_listed.f at h
  split at h
  case isFalse => cases h
  rename_i hc
  obtain rfl := (Option.some.inj h).symm
  have hC := hr1 w (Kept.refl w _)
  have hF := Kd.C_F (Kd.heap_int .i64) hC
  obtain ⟨w1, hw1⟩ : ∃ w1, w1 = w.alloc zeroRWr := ⟨_, rfl⟩
  obtain ⟨q, hq⟩ : ∃ q, q = w.heap.size := ⟨_, rfl⟩
  have hb1 : Below w.heap.size w w1 := by rw [hw1]; exact below_alloc (Below.refl _ _) _
  have hk : w1.heap[q]? = some zeroRWr := by rw [hw1, hq]; exact World.alloc_heap_new w _
  have hW : RWr w1 (fun _ => False) q [] := ⟨⟨_, hk, Kd.R_nil _ _ _ _ _⟩, (fun x hx => by cases hx), (fun k hk => hk.elim)⟩
  have hwr := RWrite_any5 (fun _ => False) q [] A1 c1 l1 w1 _ hW (by simp) (Kd.F_below hF hb1) (fun k hk _ o => by rcases o with o | o; (rw [o, hq] at hk; exact absurd hk (Nat.lt_irrefl _)); exact o) hc1 (by omega)
  have HWR := Aside0.mk hwr
  have HB1 := Aside0.mk hb1
  have HB0 := Aside0.mk hB
  have HE1 : Aside0 (w.alloc (.cells #[.slice none 0 0] 135) = w1) := ⟨hw1.symm⟩
  have HQ := Aside0.mk hq.symm
  have HO := Aside0.mk ho0
  obtain ⟨L, hL⟩ : ∃ L, L = (fWrite [] l1).2 := ⟨_, rfl⟩
  rw [← hL] at hc HWR ⊢
  have HCC := Aside0.mk hc
  obtain ⟨er, her⟩ : ∃ er, er = (fWrite [] l1).1 := ⟨_, rfl⟩
  rw [← her] at HWR
  clear hB ho0 hr1 hc1 h hC hF hw1 hq hb1 hk hW hwr hL her hc
  go_enter Tryz.func87, Tryz.ntmps87
  go_wp2_with (rw [HE1.out, HQ.out])
  refine HWR.out.mono ?_
  rintro e w2 ⟨rfl, S2, hW2, hs2, hf2⟩
  have hb2 : Below w.heap.size w w2 := HB1.out.trans (hf2.to_below HB1.out.size (fun k hk => by rcases hk with o | o; (rw [o, ← HQ.out]; exact Nat.le_refl _); exact o.elim))
  have HB2 := Aside0.mk hb2
  have HW2 := Aside0.mk hW2
  clear hW2 hs2 hf2 hb2
  go_wp2_with fail
  refine (RBytes_any S2 q L w2 HW2.out HCC.out.2.2).mono ?_
  rintro e w3 ⟨v3, S3, rfl, hr3, hs3, hb3⟩
  have HB3 := Aside0.mk (HB2.out.trans (hb3.mono HB2.out.size))
  have HW3 := Aside0.mk (HW2.out.below hb3)
  obtain ⟨A3, c3, rfl, hc3, hC3⟩ := Kd.R_reads hr3
  have hpk := pk_length L
  have hbits := bits17_f (pk_is8 HW2.out.bits) (by have := HCC.out.2.2; omega) (n := L.length) (by omega)
  rw [ofB_pk_all HW2.out.bits] at hbits
  have HBC := Aside0.mk (shawmref17_Bits.calls _ A3 c3 (pk L) (L.length : Int) L w3 hC3 hc3 hbits)
  clear hb3 hr3 hs3 hc3 hC3 hpk hbits
  go_wp2_with fail
  refine (RLen_any S2 q L w3 HW3.out).mono ?_
  rintro e w4 ⟨rfl, hw⟩
  obtain rfl := hw.symm
  go_wp2_with fail
  refine HBC.out.mono ?_
  rintro e w4 ⟨v4, rfl, hr4, hb4⟩
  have HB4 := Aside0.mk (HB3.out.trans (hb4.mono HB3.out.size))
  obtain ⟨A4, c4, rfl, hc4, hC4⟩ := Kd.R_reads hr4
  have hO4 : Kd.R (Kd.int .u8) 5 w4 w0.heap.size P0_ u9000_ l0 := Kd.R_below HO.out HB4.out
  obtain ⟨v5, w5, hrun, hr5, hg5⟩ := append_row w0.heap.size w4 u9000_ l0 L A4 L.length c4 hO4 (Nat.le_trans HB0.out.size HB4.out.size) hC4 (by have := HCC.out; omega)
  have HRUN := Aside0.mk hrun
  have HR5 := Aside0.mk hr5
  have HK5 : Aside0 (Kept w w5 (fun k => P0_ k)) := ⟨Kept.of_grown hg5 (Kept.of_below HB4.out _) (fun k hk => .inl (HO.out.1 k hk))⟩
  have HB5 : Aside0 (Below w0.heap.size w0 w5) := ⟨(HB0.out.trans (HB4.out.mono HB0.out.size)).grown hg5 (Nat.le_trans HB0.out.size HB4.out.size) (fun k hk => Kd.R_base HO.out k hk)⟩
  clear hb4 hr4 hc4 hC4 hO4 hrun hr5 hg5
  go_wp2_with (at_builtin; refine wpList_run_append rfl _ _ _ rfl _ _ rfl rfl HRUN.out ?_)
  go_ret
  refine ⟨v5, rfl, Kd.R_mono HR5.out (fun k hk => ?_), HB5.out, HK5.out⟩
  rcases hk with o | o
  · exact .inl o
  · right; rw [o]; exact HB4.out.size
end Go.Proofs.YtjcijaojcgampaaGreatDoor.P
end
