/- The contracts of rice.inRange, check and what it calls, Cost, Fold, Unfold; of the reference's. The contracts of rice.cheapest, param, Best. The contracts of rice.divides, and of the iterator of parts. The contracts of rice.order, Order. shawmref17: Put, Bits, Bytes as bits (plain law). -/
import Derived.RangeFuncNested
import Derived.Test.YtjcijaojcgampaaGreatDoorZPl7
import Derived.Test.YtjcijaojcgampaaGreatDoorZPl13
import Derived.Test.YtjcijaojcgampaaGreatDoorZPl12
import Derived.Test.YtjcijaojcgampaaGreatDoorZPl5
import Derived.Test.YtjcijaojcgampaaGreatDoorZPl6
set_option linter.unusedVariables false
set_option linter.unusedSimpArgs false
set_option maxHeartbeats 16000000
set_option maxRecDepth 100000
section
namespace Go.Proofs.YtjcijaojcgampaaGreatDoor.P
open Go.RowKit Go.Shelf Go.Proofs.YtjcijaojcgampaaGreatDoor.Bits Go.Proofs.YtjcijaojcgampaaGreatDoorW.PrintWords Go.Proofs.YtjcijaojcgampaaGreatDoorW.PrintLast Go.Proofs.YtjcijaojcgampaaGreatDoorW.PrintMore
attribute [local go_sem ↓] Go.wp_at_zero Go.wp_at_succ
theorem ret_int {k : IntKind} {a b : Int} (h : a = b) : Ending.returned (.int k a) = .returned (.int k b) := by rw [h]
theorem dtrans {a b c : World} (h : Drawn0 a b) (k : Drawn0 b c) : Drawn0 a c := by
  obtain ⟨⟨n, rfl⟩⟩ := k
  exact h.step n
theorem smallR_any (v : Int) (w : World) : Calls Tryz.prog 161 #[.int .i64 v] w fun e w' => e = .returned (.bool (small v)) ∧ Drawn0 w w' := rice_inRange.calls v _ w (own_small v)
theorem check1_any (v : Int) (w : World) : Calls Tryz.prog 160 #[.int .i64 v] w fun e w' => e = .returned (.bool (!small v)) ∧ Drawn0 w w' := by
  go_enter Tryz.func160, Tryz.ntmps160
  go_wp2_with fail
  refine (smallR_any v _).mono ?_
  rintro e w' ⟨rfl, hd⟩
  go_wp2_with fail
  go_ret
  exact ⟨rfl, hd⟩
abbrev chkF : Value := .func (.func 160) #[] #[]
theorem index_any (A : Option Addr) (c : Nat) (l : List Int) (w : World) (hC : Kd.C (Kd.int .i64) w A l.length l) (hl : l.length ≤ 1000000000) :
    Calls Tryz.prog 190 #[.slice A l.length c, chkF] w fun e w' => ∃ x : Int, e = .returned (.int .i64 x) ∧ decide (0 ≤ x) = (!(l.all small)) ∧ Drawn0 w w' := by
  have HC := Aside0.mk hC
  clear hC
  go_enter Tryz.func190, Tryz.ntmps190
  go_wp2_with fail
  go_loopw [8] (fun i wr => ∃ k : Nat, i = .int .i64 (k : Int) ∧ k ≤ l.length ∧ Aside0 (∀ j, j < k → small (l.getD j 0) = true) ∧ Aside0 (Drawn0 w wr)) (fun i _ => l.length - (intOf i).toNat)
  case atStart => exact ⟨0, rfl, Nat.zero_le _, ⟨fun j hj => by omega⟩, ⟨Drawn0.refl _⟩⟩
  case round =>
    obtain ⟨k, rfl, hk, HE, HD⟩ := hrel
    by_cases hlt : k < l.length
    · obtain ⟨ad, e, hx⟩ := at64 (Kd.C_below HC.out HD.out.below) k hlt
      subst e
      have HG : Aside0 (l.getD k 0 ∈ l) := ⟨by rw [List.getD_eq_getElem?_getD, List.getElem?_eq_getElem hlt]; exact List.getElem_mem hlt⟩
      have HE' := Aside0.mk (fun (h : small (l.getD k 0) = true) j (hj : j < k + 1) => show small (l.getD j 0) = true from by
        by_cases e : j = k
        · rw [e]; exact h
        · exact HE.out j (by omega))
      have HB : Aside0 (small (l.getD k 0) = false → l.all small = false) := ⟨fun h => by
        cases hh : l.all small with
        | false => rfl
        | true => rw [List.all_eq_true.1 hh _ HG.out] at h; cases h⟩
      generalize l.getD k 0 = x at *
      obtain ⟨b, hb⟩ : ∃ b, small x = b := ⟨_, rfl⟩
      have hcc := fun W => check1_any x W
      rw [hb] at hcc HE' HB
      have HCC := Aside0.mk hcc
      clear hcc hb HG
      go_wp2_with fail
      refine (HCC.out _).mono ?_
      rintro e w1 ⟨rfl, hd⟩
      have HD1 := Aside0.mk (dtrans HD.out hd)
      clear hd
      cases b with
      | true =>
        simp only [Bool.not_true]
        go_wp2_with fail
        go_roundw
        case rel => exact ⟨k + 1, by go_num, by omega, ⟨HE'.out rfl⟩, HD1⟩
        case measure => simp [intOf]; omega
      | false =>
        simp only [Bool.not_false]
        go_wp2_with fail
        go_ret
        refine ⟨_, rfl, ?_, HD1.out⟩
        have h := HB.out
        simp only [forall_const, true_implies] at h
        rw [h]
        simp
    · have HN : Aside0 (l.all small = true) := ⟨by
        rw [List.all_eq_true]
        intro x hx
        obtain ⟨j, hj, rfl⟩ := List.getElem_of_mem hx
        have := HE.out j (by omega)
        rw [List.getD_eq_getElem?_getD, List.getElem?_eq_getElem hj] at this
        exact this⟩
      go_wp2_with fail
      go_ret
      refine ⟨_, rfl, ?_, HD.out⟩
      rw [HN.out]
      decide
theorem contains_any (A : Option Addr) (c : Nat) (l : List Int) (w : World) (hC : Kd.C (Kd.int .i64) w A l.length l) (hl : l.length ≤ 1000000000) :
    Calls Tryz.prog 158 #[.slice A l.length c, chkF] w fun e w' => e = .returned (.bool (!(l.all small))) ∧ Drawn0 w w' := by
  have HI := Aside0.mk (index_any A c l w hC hl)
  generalize (!(l.all small)) = b at *
  clear hC
  go_enter Tryz.func158, Tryz.ntmps158
  go_wp2_with fail
  refine HI.out.mono ?_
  rintro e w1 ⟨x, rfl, hx, hd⟩
  clear HI
  go_wp2_with fail
  go_ret
  exact ⟨rfl, hd⟩
theorem check_any (A : Option Addr) (c : Nat) (l : List Int) (w : World) (hC : Kd.C (Kd.int .i64) w A l.length l) (hl : l.length ≤ 1000000000) :
    Calls Tryz.prog 129 #[.slice A l.length c] w fun e w' => e = .returned (.int .i64 (chk l)) ∧ Drawn0 w w' := by
  have HI := Aside0.mk (contains_any A c l w hC hl)
  have HK : Aside0 (chk l = if 8192 < l.length then 2 else if l.all small then 0 else 6) := ⟨rfl⟩
  clear hC
  by_cases h : 8192 < l.length
  · have d1 : decide ((8192 : Int) < (l.length : Int)) = true := by simp; omega
    rw [if_pos h] at HK
    clear h HI
    go_enter Tryz.func129, Tryz.ntmps129
    go_wp2_with fail
    go_ret
    rw [HK.out]
    exact ⟨rfl, Drawn0.refl _⟩
  · have d1 : decide ((8192 : Int) < (l.length : Int)) = false := by simp; omega
    rw [if_neg h] at HK
    clear h
    generalize l.all small = b at *
    cases b with
    | true =>
      go_enter Tryz.func129, Tryz.ntmps129
      go_wp2_with fail
      refine HI.out.mono ?_
      rintro e w1 ⟨rfl, hd⟩
      simp only [Bool.not_true]
      go_wp2_with fail
      go_ret
      rw [HK.out]
      exact ⟨rfl, hd⟩
    | false =>
      go_enter Tryz.func129, Tryz.ntmps129
      go_wp2_with fail
      refine HI.out.mono ?_
      rintro e w1 ⟨rfl, hd⟩
      simp only [Bool.not_false]
      go_wp2_with fail
      go_ret
      rw [HK.out]
      exact ⟨rfl, hd⟩
theorem sum_any (A : Option Addr) (c : Nat) (l : List Int) (k : Nat) (w : World) (hC : Kd.C (Kd.int .i64) w A l.length l) (hc : l.length ≤ c) (hs : smallL l) (hl : l.length ≤ 100000) (hk : k ≤ 14) :
    Calls Tryz.prog 167 #[.slice A l.length c, .int .i64 (k : Int)] w fun e w' => e = .returned (.int .i64 (sumW l k)) ∧ Drawn0 w w' :=
  rice_sum.calls (l.length + 1) A c l k _ w hC hc (rice_sum_f l k _ hk hs hl (by omega))
theorem fr_setRow' (w : World) (g : Nat) (cs : Array Value) : Fr (fun k => k = g) w (w.setRow g cs) := ⟨rfl, rfl, rfl, by simp, fun k _ h => setRow_other w g k cs h⟩
def cst (C : Nat → Int) (ok : Nat → Bool) (s : Int × Int) (k : Nat) : Int × Int := if ok k && decide (C k < s.2) then ((k : Int), C k) else s
theorem iter_snoc {S : Type} (st : S → Nat → S) : ∀ (n k : Nat) (s : S), iter st (n + 1) k s = st (iter st n k s) (k + n)
  | 0, k, s => rfl
  | n + 1, k, s => by
    have h := iter_snoc st n (k + 1) (st s k)
    rw [show k + (n + 1) = k + 1 + n by omega]
    exact h
def chs (C : Nat → Int) (ok : Nat → Bool) : Nat → Int × Int
  | 0 => (0, 0)
  | k + 1 => iter (cst C ok) k 1 (0, C 0)
theorem chs_succ (C : Nat → Int) (ok : Nat → Bool) (h0 : ok 0 = true) (k : Nat) : chs C ok (k + 1) = if ok k && (decide (k = 0) || decide (C k < (chs C ok k).2)) then ((k : Int), C k) else chs C ok k := by
  cases k with
  | zero => rw [h0]; rfl
  | succ k =>
    show iter (cst C ok) (k + 1) 1 (0, C 0) = _
    rw [iter_snoc, show 1 + k = k + 1 by omega]
    have e : decide (k + 1 = 0) = false := by simp
    rw [e, Bool.false_or]
    rfl
theorem cheapest_any (df : Nat) (lb : Array Value) (eg : ∀ args w, (callFunc df args).run Tryz.prog w = .ok (.enter df args) w) (last : Nat) (hl : last ≤ 20) (C : Nat → Int) (ok : Nat → Bool) (w : World) (h0 : ok 0 = true)
    (hdo : ∀ k W, k ≤ last → Below w.heap.size w W → Calls Tryz.prog df (#[.int .i64 (k : Int)] ++ lb) W fun e W' => e = .returned (.tuple #[.int .i64 (C k), .bool (ok k)]) ∧ Below W.heap.size W W') :
    Calls Tryz.prog 162 #[.int .i64 (last : Int), .func (.func df) #[] lb] w fun e w' => e = .returned (.tuple #[.int .i64 (chs C ok (last + 1)).1, .int .i64 (chs C ok (last + 1)).2]) ∧ Below w.heap.size w w' := by
  have HDO := Aside0.mk hdo
  have HSU := Aside0.mk (chs_succ C ok h0)
  have H00 := Aside0.mk h0
  obtain ⟨g, hg⟩ : ∃ g, g = w.heap.size := ⟨_, rfl⟩
  have HG := Aside0.mk hg
  obtain ⟨w1, hw1⟩ : ∃ w1, w1 = w.alloc (.cells #[.int .i64 0, .int .i64 0] 114) := ⟨_, rfl⟩
  have HB1 : Aside0 (Below w.heap.size w w1) := ⟨by rw [hw1]; exact below_alloc (Below.refl _ _) _⟩
  have HK1 : Aside0 (w1.heap[g]? = some (.cells #[.int .i64 0, .int .i64 0] 114 (0, 0))) := ⟨by rw [hw1, hg]; exact World.alloc_heap_new w _⟩
  have HE : Aside0 (w.alloc (.cells #[.int .i64 0, .int .i64 0] 114) = w1) := ⟨hw1.symm⟩
  have HC0 : Aside0 (chs C ok 0 = (0, 0)) := ⟨rfl⟩
  clear hdo h0 hg hw1
  go_enter Tryz.func162, Tryz.ntmps162
  go_wp2_with fail
  rw [HE.out, ← HG.out]
  go_loopw [7, 8] (fun f i wr => ∃ (k : Nat) (a b : Int), i = .int .i64 (k : Int) ∧ f = .bool (decide (0 < k)) ∧ k ≤ last + 1 ∧ Aside0 (chs C ok k = (a, b)) ∧ Aside0 (wr.heap[g]? = some (.cells #[.int .i64 a, .int .i64 b] 114 (0, 0))) ∧ Aside0 (Below w.heap.size w wr)) (fun _ i _ => last + 1 - (intOf i).toNat)
  case atStart => exact ⟨0, 0, 0, rfl, rfl, by omega, HC0, HK1, HB1⟩
  case round =>
    obtain ⟨k, a, b, rfl, rfl, hk, HS, HK, HB⟩ := hrel
    by_cases hlt : k < last + 1
    · have d1 : decide ((k : Int) ≤ (last : Int)) = true := by simp; omega
      have hsu := HSU.out k
      rw [HS.out] at hsu
      have HD := Aside0.mk (HDO.out k wr (by omega) HB.out)
      obtain ⟨o, ho⟩ : ∃ o, o = ok k := ⟨_, rfl⟩
      have HO : Aside0 (k = 0 → o = true) := ⟨fun e => by rw [ho, e]; exact H00.out⟩
      rw [← ho] at hsu HD
      generalize C k = x at *
      clear ho
      dsimp only at hsu
      cases o with
      | false =>
        simp only [Bool.false_and, if_neg Bool.false_ne_true] at hsu
        by_cases hk0 : k = 0
        · subst hk0
          exact absurd (HO.out rfl) (by simp)
        have qk : decide (0 < k) = true := by simp; omega
        rw [qk]
        go_wp2_with fail
        refine HD.out.mono ?_
        rintro e w2 ⟨rfl, hb⟩
        have HB2 := Aside0.mk (HB.out.trans (hb.mono HB.out.size))
        have hk2 := blk_fr HK.out (Fr.below hb (fun _ => False)) (fun h => h)
        have z1 : w2.cell? ⟨g, 1, none⟩ = some (.int .i64 b) := by rw [cell_of_row w2 g 1 _ _ (0, 0) hk2]; rfl
        have HK2 := Aside0.mk hk2
        clear hb hk2
        go_wp2_with fail
        go_roundw
        case rel => exact ⟨k + 1, a, b, by go_num, by simp, by omega, ⟨hsu⟩, HK2, HB2⟩
        case measure => first | (simp [intOf]; done) | (simp [intOf]; omega)
      | true =>
        by_cases hk0 : k = 0
        · subst hk0
          simp only [decide_true, Bool.true_or, Bool.true_and, if_true] at hsu
          have qk : decide (0 < 0) = false := by simp
          rw [qk]
          go_wp2_with fail
          refine HD.out.mono ?_
          rintro e w2 ⟨rfl, hb⟩
          have HB2 := Aside0.mk (HB.out.trans (hb.mono HB.out.size))
          have hk2 := blk_fr HK.out (Fr.below hb (fun _ => False)) (fun h => h)
          have z1 : w2.cell? ⟨g, 1, none⟩ = some (.int .i64 b) := by rw [cell_of_row w2 g 1 _ _ (0, 0) hk2]; rfl
          have HK2 := Aside0.mk hk2
          clear hb hk2
          go_wp2_with (refine wpList_store_row rfl _ _ _ rfl g #[.int .i64 ((0 : Nat) : Int), .int .i64 x] rfl rfl _ _ HK2.out (by kernel_rfl) rfl (by kernel_rfl) ?_)
          have HB3 : Aside0 (Below w.heap.size w (w2.setRow g #[.int .i64 ((0 : Nat) : Int), .int .i64 x])) := ⟨HB2.out.trans ((fr_setRow' _ _ _).to_below HB2.out.size (fun j hj => by have := HG.out; omega))⟩
          go_roundw
          case rel => exact ⟨0 + 1, ((0 : Nat) : Int), x, by go_num, by simp, by omega, ⟨hsu⟩, ⟨setRow_heap _ _ _ _ _ _ HK2.out⟩, HB3⟩
          case measure => first | (simp [intOf]; done) | (simp [intOf]; omega)
        have qk : decide (0 < k) = true := by simp; omega
        have qk2 : decide (k = 0) = false := by simp [hk0]
        rw [qk2, Bool.false_or, Bool.true_and] at hsu
        rw [qk]
        by_cases hxb : x < b
        · rw [if_pos (decide_eq_true hxb)] at hsu
          have d2 : decide (x < b) = true := decide_eq_true hxb
          clear hxb
          go_wp2_with fail
          refine HD.out.mono ?_
          rintro e w2 ⟨rfl, hb⟩
          have HB2 := Aside0.mk (HB.out.trans (hb.mono HB.out.size))
          have hk2 := blk_fr HK.out (Fr.below hb (fun _ => False)) (fun h => h)
          have z1 : w2.cell? ⟨g, 1, none⟩ = some (.int .i64 b) := by rw [cell_of_row w2 g 1 _ _ (0, 0) hk2]; rfl
          have HK2 := Aside0.mk hk2
          clear hb hk2
          go_wp2_with (refine wpList_store_row rfl _ _ _ rfl g #[.int .i64 (k : Int), .int .i64 x] rfl rfl _ _ HK2.out (by kernel_rfl) rfl (by kernel_rfl) ?_)
          have HB3 : Aside0 (Below w.heap.size w (w2.setRow g #[.int .i64 (k : Int), .int .i64 x])) := ⟨HB2.out.trans ((fr_setRow' _ _ _).to_below HB2.out.size (fun j hj => by have := HG.out; omega))⟩
          go_roundw
          case rel => exact ⟨k + 1, (k : Int), x, by go_num, by simp, by omega, ⟨hsu⟩, ⟨setRow_heap _ _ _ _ _ _ HK2.out⟩, HB3⟩
          case measure => first | (simp [intOf]; done) | (simp [intOf]; omega)
        · rw [if_neg (fun h => hxb (of_decide_eq_true h))] at hsu
          have d2 : decide (x < b) = false := decide_eq_false hxb
          clear hxb
          go_wp2_with fail
          refine HD.out.mono ?_
          rintro e w2 ⟨rfl, hb⟩
          have HB2 := Aside0.mk (HB.out.trans (hb.mono HB.out.size))
          have hk2 := blk_fr HK.out (Fr.below hb (fun _ => False)) (fun h => h)
          have z1 : w2.cell? ⟨g, 1, none⟩ = some (.int .i64 b) := by rw [cell_of_row w2 g 1 _ _ (0, 0) hk2]; rfl
          have HK2 := Aside0.mk hk2
          clear hb hk2
          go_wp2_with fail
          go_roundw
          case rel => exact ⟨k + 1, a, b, by go_num, by simp, by omega, ⟨hsu⟩, HK2, HB2⟩
          case measure => first | (simp [intOf]; done) | (simp [intOf]; omega)
    · obtain rfl : k = last + 1 := by omega
      have d1 : decide (((last + 1 : Nat) : Int) ≤ (last : Int)) = false := by simp; omega
      have z0 : wr.cell? ⟨g, 0, none⟩ = some (.int .i64 a) := by rw [cell_of_row wr g 0 _ _ (0, 0) HK.out]; rfl
      have z1 : wr.cell? ⟨g, 1, none⟩ = some (.int .i64 b) := by rw [cell_of_row wr g 1 _ _ (0, 0) HK.out]; rfl
      go_wp2_with fail
      go_quiet (fail)
      go_wp2_with fail
      go_ret2
      rw [HS.out]
      exact ⟨rfl, below_drewN HB.out _⟩
theorem chs_best (l : List Int) : chs (sumW l) (fun _ => true) 15 = bestW l := by
  show iter (cst (sumW l) fun _ => true) 14 1 (0, sumW l 0) = iter (bstep (sumW l)) 14 1 (0, sumW l 0)
  congr 1
  funext s k
  unfold cst bstep
  simp
abbrev listBox (A : Option Addr) (n c : Nat) : Obj := .cells #[.slice A n c] 22 (0, 0)
theorem param1_any (A : Option Addr) (c : Nat) (l : List Int) (b k : Nat) (w : World) (hb : w.heap[b]? = some (listBox A l.length c)) (hC : Kd.C (Kd.int .i64) w A l.length l) (hc : l.length ≤ c) (hs : smallL l) (hl : l.length ≤ 100000) (hk : k ≤ 14) :
    Calls Tryz.prog 166 (#[.int .i64 (k : Int)] ++ #[.pointer (some ⟨b, 0, none⟩)]) w fun e w' => e = .returned (.tuple #[.int .i64 (sumW l k), .bool true]) ∧ Below w.heap.size w w' := by
  have HS := Aside0.mk (sum_any A c l k w hC hc hs hl hk)
  have z := cell_of_one hb
  clear hb hC hs
  show Calls Tryz.prog 166 #[.int .i64 (k : Int), .pointer (some ⟨b, 0, none⟩)] w _
  go_enter Tryz.func166, Tryz.ntmps166
  go_wp2_with fail
  refine HS.out.mono ?_
  rintro e w2 ⟨rfl, hd⟩
  go_wp2_with fail
  go_ret2
  exact ⟨rfl, hd.below⟩
theorem param_any (A : Option Addr) (c : Nat) (l : List Int) (w : World) (hC : Kd.C (Kd.int .i64) w A l.length l) (hc : l.length ≤ c) (hs : smallL l) (hl : l.length ≤ 100000) :
    Calls Tryz.prog 132 #[.slice A l.length c] w fun e w' => e = .returned (.tuple #[.int .i64 (bestW l).1, .int .i64 (bestW l).2]) ∧ Below w.heap.size w w' := by
  obtain ⟨w1, hw1⟩ : ∃ w1, w1 = w.alloc (listBox A l.length c) := ⟨_, rfl⟩
  obtain ⟨b, hb⟩ : ∃ b, b = w.heap.size := ⟨_, rfl⟩
  have hb1 : Below w.heap.size w w1 := by rw [hw1]; exact below_alloc (Below.refl _ _) _
  have hk1 : w1.heap[b]? = some (listBox A l.length c) := by rw [hw1, hb]; exact World.alloc_heap_new w _
  have hch := cheapest_any 166 #[.pointer (some ⟨b, 0, none⟩)] (enters_of Tryz.func166 (by kernel_rfl) rfl) 14 (by omega) (sumW l) (fun _ => true) w1 rfl
    (fun k W hk hW => param1_any A c l b k W (blk_fr hk1 (Fr.below hW (fun _ => False)) (fun h => h)) (Kd.C_below hC (hb1.trans (hW.mono hb1.size))) hc hs hl hk)
  rw [chs_best] at hch
  have HCH := Aside0.mk hch
  have HB1 := Aside0.mk hb1
  have HE : Aside0 (w.alloc (.cells #[.slice A l.length c] 22) = w1) := ⟨hw1.symm⟩
  have HB := Aside0.mk hb
  generalize bestW l = r at *
  clear hC hs hw1 hb hb1 hk1 hch
  go_enter Tryz.func132, Tryz.ntmps132
  go_wp2_with fail
  rw [HE.out, ← HB.out]
  refine HCH.out.mono ?_
  rintro e w2 ⟨rfl, hd⟩
  have HB2 := Aside0.mk (HB1.out.trans (hd.mono HB1.out.size))
  clear hd
  go_wp2_with fail
  go_ret2
  exact ⟨rfl, HB2.out⟩
theorem divides_any (n p : Nat) (hp : p ≤ 3) (hn : n ≤ 1000000000) (w : World) : Calls Tryz.prog 164 #[.int .i64 (n : Int), .int .i64 (p : Int)] w fun e w' => e = .returned (.bool (divB n p)) ∧ w' = w := by
  rcases (by omega : p = 0 ∨ p = 1 ∨ p = 2 ∨ p = 3) with rfl | rfl | rfl | rfl
  · have hm : Int.tmod (n : Int) 1 = ((n % 1 : Nat) : Int) := by rw [Int.tmod_eq_emod_of_nonneg (by omega)]; exact (Int.natCast_emod _ _).symm
    have hm2 : (n : Int) % 1 = ((n % 1 : Nat) : Int) := (Int.natCast_emod _ _).symm
    by_cases h1 : n % 1 = 0
    · by_cases h2 : n = 0
      · subst h2
        have HN : Aside0 (divB 0 0 = true) := ⟨by decide⟩
        clear hm hm2 h1
        go_enter Tryz.func164, Tryz.ntmps164
        go_wp2_with fail
        go_ret
        rw [HN.out]
        exact ⟨rfl, rfl⟩
      · have HN : Aside0 (divB n 0 = true) := ⟨by unfold divB; rw [show 2 ^ 0 = 1 from rfl, decide_eq_true h1, decide_eq_true (show 0 < n by omega)]; rfl⟩
        have q1 : (((n % 1 : Nat) : Int) == 0) = true := by simp [h1]
        have q2 : decide ((0 : Int) < (n : Int)) = true := by simp; omega
        have q3 : decide (0 < n) = true := by simp; omega
        have q4 : ((n : Int) % 1 == 0) = true := by rw [hm2]; exact q1
        clear h1 h2 hm hm2 q1
        go_enter Tryz.func164, Tryz.ntmps164
        go_wp2_with fail
        go_ret
        rw [HN.out]
        exact ⟨rfl, rfl⟩
    · exact absurd (Nat.mod_one n) h1
  · have hm : Int.tmod (n : Int) 2 = ((n % 2 : Nat) : Int) := by rw [Int.tmod_eq_emod_of_nonneg (by omega)]; exact (Int.natCast_emod _ _).symm
    have hm2 : (n : Int) % 2 = ((n % 2 : Nat) : Int) := (Int.natCast_emod _ _).symm
    by_cases h1 : n % 2 = 0
    · by_cases h2 : n = 0
      · subst h2
        have HN : Aside0 (divB 0 1 = false) := ⟨by decide⟩
        clear hm hm2 h1
        go_enter Tryz.func164, Tryz.ntmps164
        go_wp2_with fail
        go_ret
        rw [HN.out]
        exact ⟨rfl, rfl⟩
      · have HN : Aside0 (divB n 1 = true) := ⟨by unfold divB; rw [show 2 ^ 1 = 2 from rfl, decide_eq_true h1, decide_eq_true (show 0 < n by omega)]; rfl⟩
        have q1 : (((n % 2 : Nat) : Int) == 0) = true := by simp [h1]
        have q2 : decide ((0 : Int) < (n : Int)) = true := by simp; omega
        have q3 : decide (0 < n) = true := by simp; omega
        have q4 : ((n : Int) % 2 == 0) = true := by rw [hm2]; exact q1
        clear h1 h2 hm hm2 q1
        go_enter Tryz.func164, Tryz.ntmps164
        go_wp2_with fail
        go_ret
        rw [HN.out]
        exact ⟨rfl, rfl⟩
    · have HN : Aside0 (divB n 1 = false) := ⟨by unfold divB; rw [show 2 ^ 1 = 2 from rfl, decide_eq_false h1]; rfl⟩
      have q1 : (((n % 2 : Nat) : Int) == 0) = false := by simp; omega
      have q4 : ((n : Int) % 2 == 0) = false := by rw [hm2]; exact q1
      clear h1 hm hm2 q1
      go_enter Tryz.func164, Tryz.ntmps164
      go_wp2_with fail
      go_ret
      rw [HN.out]
      exact ⟨rfl, rfl⟩
  · have hm : Int.tmod (n : Int) 4 = ((n % 4 : Nat) : Int) := by rw [Int.tmod_eq_emod_of_nonneg (by omega)]; exact (Int.natCast_emod _ _).symm
    have hm2 : (n : Int) % 4 = ((n % 4 : Nat) : Int) := (Int.natCast_emod _ _).symm
    by_cases h1 : n % 4 = 0
    · by_cases h2 : n = 0
      · subst h2
        have HN : Aside0 (divB 0 2 = false) := ⟨by decide⟩
        clear hm hm2 h1
        go_enter Tryz.func164, Tryz.ntmps164
        go_wp2_with fail
        go_ret
        rw [HN.out]
        exact ⟨rfl, rfl⟩
      · have HN : Aside0 (divB n 2 = true) := ⟨by unfold divB; rw [show 2 ^ 2 = 4 from rfl, decide_eq_true h1, decide_eq_true (show 0 < n by omega)]; rfl⟩
        have q1 : (((n % 4 : Nat) : Int) == 0) = true := by simp [h1]
        have q2 : decide ((0 : Int) < (n : Int)) = true := by simp; omega
        have q3 : decide (0 < n) = true := by simp; omega
        have q4 : ((n : Int) % 4 == 0) = true := by rw [hm2]; exact q1
        clear h1 h2 hm hm2 q1
        go_enter Tryz.func164, Tryz.ntmps164
        go_wp2_with fail
        go_ret
        rw [HN.out]
        exact ⟨rfl, rfl⟩
    · have HN : Aside0 (divB n 2 = false) := ⟨by unfold divB; rw [show 2 ^ 2 = 4 from rfl, decide_eq_false h1]; rfl⟩
      have q1 : (((n % 4 : Nat) : Int) == 0) = false := by simp; omega
      have q4 : ((n : Int) % 4 == 0) = false := by rw [hm2]; exact q1
      clear h1 hm hm2 q1
      go_enter Tryz.func164, Tryz.ntmps164
      go_wp2_with fail
      go_ret
      rw [HN.out]
      exact ⟨rfl, rfl⟩
  · have hm : Int.tmod (n : Int) 8 = ((n % 8 : Nat) : Int) := by rw [Int.tmod_eq_emod_of_nonneg (by omega)]; exact (Int.natCast_emod _ _).symm
    have hm2 : (n : Int) % 8 = ((n % 8 : Nat) : Int) := (Int.natCast_emod _ _).symm
    by_cases h1 : n % 8 = 0
    · by_cases h2 : n = 0
      · subst h2
        have HN : Aside0 (divB 0 3 = false) := ⟨by decide⟩
        clear hm hm2 h1
        go_enter Tryz.func164, Tryz.ntmps164
        go_wp2_with fail
        go_ret
        rw [HN.out]
        exact ⟨rfl, rfl⟩
      · have HN : Aside0 (divB n 3 = true) := ⟨by unfold divB; rw [show 2 ^ 3 = 8 from rfl, decide_eq_true h1, decide_eq_true (show 0 < n by omega)]; rfl⟩
        have q1 : (((n % 8 : Nat) : Int) == 0) = true := by simp [h1]
        have q2 : decide ((0 : Int) < (n : Int)) = true := by simp; omega
        have q3 : decide (0 < n) = true := by simp; omega
        have q4 : ((n : Int) % 8 == 0) = true := by rw [hm2]; exact q1
        clear h1 h2 hm hm2 q1
        go_enter Tryz.func164, Tryz.ntmps164
        go_wp2_with fail
        go_ret
        rw [HN.out]
        exact ⟨rfl, rfl⟩
    · have HN : Aside0 (divB n 3 = false) := ⟨by unfold divB; rw [show 2 ^ 3 = 8 from rfl, decide_eq_false h1]; rfl⟩
      have q1 : (((n % 8 : Nat) : Int) == 0) = false := by simp; omega
      have q4 : ((n : Int) % 8 == 0) = false := by rw [hm2]; exact q1
      clear h1 hm hm2 q1
      go_enter Tryz.func164, Tryz.ntmps164
      go_wp2_with fail
      go_ret
      rw [HN.out]
      exact ⟨rfl, rfl⟩
theorem shl_pow {p : Nat} (hp : p ≤ 3) : IntKind.i64.wrap (1 * 2 ^ min p 64) = ((2 ^ p : Nat) : Int) ∧ wrap64 (2 ^ min p 64) = ((2 ^ p : Nat) : Int) := by
  rcases (by omega : p = 0 ∨ p = 1 ∨ p = 2 ∨ p = 3) with rfl | rfl | rfl | rfl <;> exact ⟨by decide, (i64_w _).symm.trans (by decide)⟩
abbrev seqP (bl bp : Nat) : Value := .func (.func 165) #[] #[.pointer (some ⟨bl, 0, none⟩), .pointer (some ⟨bp, 0, none⟩)]
theorem parts_any (A : Option Addr) (n c p : Nat) (w : World) : Calls Tryz.prog 131 #[.slice A n c, .int .i64 (p : Int)] w fun e w' => e = .returned (seqP w.heap.size (w.heap.size + 1)) ∧ w' = (w.alloc (listBox A n c)).alloc (intBox (p : Int)) := by
  go_enter Tryz.func131, Tryz.ntmps131
  go_wp2
  go_ret
  simp
abbrev PIx (p : Nat) : Type := { i : Nat // i < 2 ^ p }
def pAt (A : Option Addr) (c N i : Nat) : Option Addr := if c = i * N then A else A.map (·.add (i * N * 1))
abbrev partV (A : Option Addr) (c N i : Nat) : Value := .slice (pAt A c N i) N (c - i * N)
attribute [local go_sem] Oper.semAt_some
theorem parts_stops (m bl bp : Nat) (A : Option Addr) (c : Nat) (l : List Int) (p : Nat) (hp : p ≤ 3) (hl : l.length ≤ 100000) (hc : l.length ≤ c) (T : Nat → Prop) (w : World) (hbl : w.heap[bl]? = some (listBox A l.length c)) (hbp : w.heap[bp]? = some (intBox (p : Int))) (hTl : ¬ T bl) (hTp : ¬ T bp) :
    SeqStopsK Fence.wide m Tryz.prog 165 #[.pointer (some ⟨bl, 0, none⟩), .pointer (some ⟨bp, 0, none⟩)] (fun i : PIx p => #[partV A c (partN l p) i.1]) (Fr T) (fun xs => xs.map (·.1) = List.range' 0 (2 ^ p)) (fun _ => True) (2 ^ p) w := by
  intro lx J Jx W hW hJ hJx hY h0
  have hblW := (hW.block bl (lt_of_block hbl)).trans hbl
  have hbpW := (hW.block bp (lt_of_block hbp)).trans hbp
  have HY := Aside0.mk hY
  have HTL := Aside0.mk hTl
  have HTP := Aside0.mk hTp
  have HL := Aside0.mk hblW
  have HP := Aside0.mk hbpW
  have h8 := pow_le8 hp
  have HSH : Aside0 (((l.length : Int) / 2 ^ p) = ((partN l p : Nat) : Int)) := ⟨by unfold partN; push_cast; rfl⟩
  have HPL := Aside0.mk (part_le l p)
  have hN := partN_le l p
  have z1 := cell_of_one hblW
  have z2 := cell_of_one hbpW
  have s1 : (l.length : Int) / 2 ^ p = ((partN l p : Nat) : Int) := HSH.out
  have s3 : wrap64 (2 ^ p) = ((2 ^ p : Nat) : Int) := by have := (shl_pow hp).2; rwa [Nat.min_eq_left (by omega)] at this
  clear hbl hbp hW hblW hbpW hY hTl hTp
  obtain ⟨Q, hQ⟩ : ∃ Q, Q = 2 ^ p := ⟨_, rfl⟩
  rw [← hQ] at h8 HPL
  replace s3 : wrap64 (2 ^ p) = (Q : Int) := by rw [s3, hQ]
  obtain ⟨N, hNe⟩ : ∃ N, N = partN l p := ⟨_, rfl⟩
  rw [← hNe] at s1 HPL hN HY
  have HQ := Aside0.mk hQ
  have HNE := Aside0.mk hNe
  clear hQ hNe HSH
  refine callsIn_of_wp Tryz.func165 rfl trivial ?_ rfl
  simp only [Tryz.ntmps165, List.size_toArray, List.length_cons, List.length_nil, Nat.reduceAdd, Nat.reduceSub, Array.replicate_succ, Array.replicate_zero, List.push_toArray, List.append_toArray, List.nil_append, List.cons_append]
  gi_wp2
  clear z1 z2 s1 s3
  gi_loopw [12] (fun u wr => ∃ (k : Nat) (pre : List (PIx p)), u = .int .i64 (k : Int) ∧ k ≤ Q ∧ Aside0 (pre.map (·.1) = List.range' 0 k) ∧ Aside0 (J pre wr) ∧ Aside0 (Fr T W wr)) (fun u _ => Q - (intOf u).toNat)
  case atStart => exact ⟨0, [], rfl, Nat.zero_le _, ⟨rfl⟩, ⟨h0⟩, ⟨Fr.refl _ _⟩⟩
  case round =>
    obtain ⟨k, pre, rfl, hk, HPR, HJ, HF⟩ := hrel
    by_cases hlt : k < Q
    · have d1 : decide ((k : Int) < (Q : Int)) = true := by simp; omega
      have z1 := cell_of_one (blk_fr HL.out HF.out HTL.out)
      have hle := HPL.out k hlt
      have hm1 : (k : Int) * (N : Int) = ((k * N : Nat) : Int) := (Int.natCast_mul _ _).symm
      have hm2 : ((k : Int) + 1) * (N : Int) = ((k * N + N : Nat) : Int) := by rw [← Int.natCast_succ, ← Int.natCast_mul, Nat.succ_mul]
      have hm3 : (k : Int) * (N : Int) + (N : Int) = ((k * N + N : Nat) : Int) := by rw [hm1]; omega
      have hsl : ∀ W : World, (Instr.slice 22 (.slice A l.length c) (some (.int .i64 ((k : Int) * (N : Int)))) (some (.int .i64 ((k : Int) * (N : Int) + (N : Int)))) none).run Tryz.prog W = .ok (partV A c N k) W := by
        intro W
        have := cut_mid (P := Tryz.prog) 22 3 .i64 .i64 Tryz.underlying22 (i := _) rfl 1 rfl A l.length c ((k * N : Nat) : Int) ((k * N + N : Nat) : Int) (by omega) (by omega) (by omega) hc W
        rw [Int.toNat_natCast, Int.toNat_natCast, show k * N + N - k * N = N by omega] at this
        rw [hm1, show ((k * N : Nat) : Int) + (N : Int) = ((k * N + N : Nat) : Int) by omega]
        exact this
      have w3 : wrap64 ((k : Int) * (N : Int)) = (k : Int) * (N : Int) := by rw [hm1]; exact wrap64_id (by omega) (by omega)
      have w4 : wrap64 (((k : Int) + 1) * (N : Int)) = (k : Int) * (N : Int) + (N : Int) := by rw [hm2, hm3]; exact wrap64_id (by omega) (by omega)
      have hpl : pre.length = k := by have := congrArg List.length HPR.out; rwa [List.length_map, List.length_range'] at this
      obtain ⟨fn, tmps, assign, body, hy, hR⟩ := HY.out pre ⟨k, by rw [← HQ.out]; exact hlt⟩ wr HJ.out (by rw [hpl, ← HQ.out]; exact hlt)
      have HRR := Aside0.mk hR
      have HNT : Aside0 ((pre ++ [(⟨k, by rw [← HQ.out]; exact hlt⟩ : PIx p)]).map (·.1) = List.range' 0 (k + 1)) := ⟨by rw [List.map_append, HPR.out, List.range'_concat]; simp⟩
      dsimp only at hy
      generalize partV A c N k = pv at *
      clear hR hm1 hm2 hm3 hle hpl
      gi_wp2
      refine ⟨fun h => by simp [Fence.wide] at h, ?_⟩
      refine HRR.out.mono ?_
      rintro e W' (⟨rfl, hJ', hk'⟩ | ⟨rfl, hJx'⟩)
      · have HJ' := Aside0.mk hJ'
        have HK' := Aside0.mk hk'
        clear hJ' hk' hsl w3 w4
        gi_wp2
        go_roundw
        case rel => exact ⟨k + 1, _, by go_num, by omega, HNT, HJ', ⟨HF.out.trans HK'.out⟩⟩
        case measure => simp [intOf]; omega
      · gi_wp2
        refine bodyPost_ret (results_none rfl _ _ _) rfl ?_
        exact ⟨⟨_, rfl⟩, .inr ⟨_, trivial, hJx'⟩⟩
    · obtain rfl : k = Q := by omega
      gi_wp2
      go_end0
      exact ⟨⟨_, rfl⟩,   .inl ⟨pre, HPR.out.trans (congrArg (List.range' 0) HQ.out), HJ.out⟩⟩
def csum (l : List Int) (p : Nat) (pre : List Nat) : Int := (pre.map fun i => costP (partL l p i)).sum
theorem csum_snoc (l : List Int) (p : Nat) (pre : List Nat) (i : Nat) : csum l p (pre ++ [i]) = csum l p pre + costP (partL l p i) := by unfold csum; simp
theorem wholeW_csum (l : List Int) (p : Nat) : wholeW l p = 2 + csum l p (List.range' 0 (2 ^ p)) := by unfold wholeW csum partsL; rw [List.map_map]; rfl
theorem partL_len_le (l : List Int) (p i : Nat) : (partL l p i).length ≤ l.length := by unfold partL; rw [List.length_drop, List.length_take]; omega
theorem costP_bound' {l : List Int} (hs : smallL l) (hl : l.length ≤ 100000) (p i : Nat) : 0 ≤ costP (partL l p i) ∧ costP (partL l p i) ≤ 5700004 := by
  have hb := (bestW_bound (partL_small hs p i)).2
  have := partL_len_le l p i
  unfold costP
  omega
theorem csum_bound {l : List Int} (hs : smallL l) (hl : l.length ≤ 100000) (p : Nat) (pre : List Nat) : 0 ≤ csum l p pre ∧ csum l p pre ≤ 5700004 * pre.length := sum_bound _ _ pre (fun i _ => costP_bound' hs hl p i)
theorem part_C {W : World} {A : Option Addr} {c : Nat} {l : List Int} (h : Kd.C (Kd.int .i64) W A l.length l) (hc : l.length ≤ c) (p i : Nat) (hi : i < 2 ^ p) : Kd.C (Kd.int .i64) W (pAt A c (partN l p) i) (partL l p i).length (partL l p i) := by
  have hle := part_le l p i hi
  have := Kd.C_mid (c := c) (lo := i * partN l p) (hi := i * partN l p + partN l p) h (by omega) hle hc
  exact this
theorem own_cells {β : Type} (B b : Nat) (cs : Array Value) (t : TypeId) (fr : Nat × Nat) : OwnFrom B (fun (_ : β) W => W.heap[b]? = some (.cells cs t fr)) := fun s X Y row hs hg hr =>
  (hg.block _ (lt_of_block hs) (fun e => by
    obtain ⟨_, o, ho, hc⟩ := hr b e.symm
    rw [hs] at ho
    cases ho
    cases hc)).trans hs
attribute [local go_sem] Oper.semAt_some
theorem order1_any (A : Option Addr) (c : Nat) (l : List Int) (b p : Nat) (w : World) (hb : w.heap[b]? = some (listBox A l.length c)) (hC : Kd.C (Kd.int .i64) w A l.length l) (hc : l.length ≤ c) (hs : smallL l) (hl : l.length ≤ 100000) (hp : p ≤ 3) :
    Calls Tryz.prog 163 (#[.int .i64 (p : Int)] ++ #[.pointer (some ⟨b, 0, none⟩)]) w fun e w' => e = .returned (.tuple #[.int .i64 (if divB l.length p then wholeW l p else 0), .bool (divB l.length p)]) ∧ Below w.heap.size w w' := by
  show Calls Tryz.prog 163 #[.int .i64 (p : Int), .pointer (some ⟨b, 0, none⟩)] w _
  have HD := Aside0.mk (fun W => divides_any l.length p hp (by omega) W)
  have zb := cell_of_one hb
  by_cases hd : divB l.length p = true
  case neg =>
    have hd' : divB l.length p = false := by simpa using hd
    rw [hd'] at HD ⊢
    clear hb hC hs hd hd'
    go_enter Tryz.func163, Tryz.ntmps163
    go_wp2_with fail
    refine (HD.out _).mono ?_
    rintro e w2 ⟨rfl, hw⟩
    obtain rfl := hw.symm
    go_wp2_with fail
    go_ret2
    exact ⟨rfl, Below.refl _ _⟩
  rw [hd] at HD ⊢
  rw [if_pos rfl]
  have h8 := pow_le8 hp
  obtain ⟨bn, hbn⟩ : ∃ bn, bn = w.heap.size := ⟨_, rfl⟩
  obtain ⟨w1, hw1⟩ : ∃ w1, w1 = w.alloc (intBox 2) := ⟨_, rfl⟩
  obtain ⟨w4, hw4⟩ : ∃ w4, w4 = (w1.alloc (listBox A l.length c)).alloc (intBox (p : Int)) := ⟨_, rfl⟩
  obtain ⟨bl, hbl⟩ : ∃ bl, bl = w1.heap.size := ⟨_, rfl⟩
  have hsz1 : w1.heap.size = w.heap.size + 1 := by rw [hw1]; simp
  have hsz4 : w4.heap.size = w1.heap.size + 2 := by rw [hw4]; simp
  have hB1 : Below w.heap.size w w1 := by rw [hw1]; exact below_alloc (Below.refl _ _) _
  have hb14 : Below w1.heap.size w1 w4 := by rw [hw4]; exact below_alloc (below_alloc (Below.refl _ _) _) _
  have hB4 := hB1.trans (hb14.mono hB1.size)
  have hkn : w4.heap[bn]? = some (intBox 2) := blk_fr (by rw [hw1, hbn]; exact World.alloc_heap_new w _) (Fr.below hb14 (fun _ => False)) (fun h => h)
  have hkl : w4.heap[bl]? = some (listBox A l.length c) := by rw [hw4, hbl]; exact blk_alloc' (World.alloc_heap_new w1 _) _
  have hkp : w4.heap[bl + 1]? = some (intBox (p : Int)) := by
    rw [hw4, hbl]
    have := World.alloc_heap_new (w1.alloc (listBox A l.length c)) (intBox (p : Int))
    simpa using this
  have z1 : w1.cell? ⟨b, 0, none⟩ = some (.slice A l.length c) := cell_of_one (blk_fr hb (Fr.below hB1 (fun _ => False)) (fun h => h))
  have hst := parts_stops 4 bl (bl + 1) A c l p hp hl hc (fun k => w.heap.size ≤ k ∧ k ≠ bl ∧ k ≠ bl + 1) w4 hkl hkp (fun h => h.2.1 rfl) (fun h => h.2.2 rfl)
  have HPM := Aside0.mk (fun W hW (i : Nat) (hi : i < 2 ^ p) => param_any (pAt A c (partN l p) i) (c - i * partN l p) (partL l p i) W (part_C hW hc p i hi) (by rw [partL_length l p i hi]; have := part_le l p i hi; omega) (partL_small hs p i) (by have := partL_len_le l p i; omega))
  have HPL := Aside0.mk (partL_length l p)
  have HCB := Aside0.mk (csum_bound hs hl p)
  have HWW := Aside0.mk (wholeW_csum l p)
  have HCP := Aside0.mk (costP_bound' hs hl)
  have HST := Aside0.mk hst
  have HB4 := Aside0.mk hB4
  have HB1 := Aside0.mk hB1
  have HKN := Aside0.mk hkn
  have HC := Aside0.mk hC
  have HN := Aside0.mk (show bn = w.heap.size ∧ bn < bl ∧ bl + 2 = w4.heap.size from ⟨hbn, by omega, by omega⟩)
  have HE1 : Aside0 (w.alloc (.cells #[.int .i64 2] 3) = w1) := ⟨hw1.symm⟩
  have HW4 := Aside0.mk hw4
  have HBL := Aside0.mk hbl
  have HBN := Aside0.mk hbn
  clear hb hC hs hd hbn hw1 hw4 hbl hsz1 hsz4 hB1 hb14 hB4 hkn hkl hkp hst
  refine (callsIn_wide (n := 5)).1 ?_
  refine callsIn_of_wp_marks Tryz.func163 rfl trivial ?_ rfl
  simp only [Tryz.ntmps163, List.size_toArray, List.length_cons, List.length_nil, Nat.reduceAdd, Nat.reduceSub, Array.replicate_succ, Array.replicate_zero, List.push_toArray, List.append_toArray, List.nil_append, List.cons_append]
  refine wpIn_wide.2 ?_
  go_wp2_with fail
  refine (HD.out _).mono ?_
  rintro e w2 ⟨rfl, hw⟩
  obtain rfl := hw.symm
  have z2 : (w.alloc (.cells #[.int .i64 2] 3)).cell? ⟨b, 0, none⟩ = some (.slice A l.length c) := by rw [HE1.out]; exact z1
  go_wp2_with fail
  rw [HE1.out, ← HBN.out]
  refine (parts_any A l.length c p w1).mono ?_
  rintro e w2 ⟨rfl, hw⟩
  rw [← HW4.out] at hw
  obtain rfl := hw.symm
  rw [← HBL.out]
  go_wp2_with fail
  refine (wpIn_wide (n := 5)).1 ?_
  refine wpIn_rangeFunc_ownG rfl (by omega) (gf := 165) (lb := #[.pointer (some ⟨bl, 0, none⟩), .pointer (some ⟨bl + 1, 0, none⟩)]) rfl trivial (enters_of Tryz.func165 (by kernel_rfl) rfl)
    HST.out (fun h k => h.trans k) ?hKb (Below.refl w4.heap.size w4) (fun _ => rfl)
    (fun pre W => (Below w.heap.size w W ∧ w4.heap.size ≤ W.heap.size) ∧ W.heap[bn]? = some (intBox (2 + csum l p (pre.map (·.1)))))
    (fun _ _ _ => False) ?hI (fun _ _ _ _ _ hs _ _ => hs) ⟨⟨HB4.out, Nat.le_refl _⟩, HKN.out⟩
    (fun i : PIx p => { tmps := #[.int .i64 (p : Int), .pointer (some ⟨b, 0, none⟩), undef, .int .i64 0, .bool false, .pointer (some ⟨bn, 0, none⟩), partV A c (partN l p) i.1, undef, undef, .slice A l.length c, .int .i64 (l.length : Int), .int .i64 (p : Int), .bool true, .bool false, .slice A l.length c, .int .i64 (p : Int), seqP bl (bl + 1), partV A c (partN l p) i.1, undef, undef, undef, undef, undef, undef, undef, undef, undef, undef], defers := [] })
    ?assign ?body ?done ?stop
  case hKb =>
    intro W l' o o' hl' ho hc' _
    exact (Fr.refl _ _).grown (grownBy_putObj' W l' o') (fun k _ e => by cases e; have := HN.out; exact ⟨by have := HB4.out.size; omega, by omega, by omega⟩)
  case hI =>
    rintro s X Y row ⟨⟨hb, hs4⟩, h3⟩ hg hrow
    refine ⟨⟨hb.grown hg hb.size (fun k e => by have := (hrow k e).1; have := HB4.out.size; omega), Nat.le_trans hs4 hg.size⟩, own_cells (β := Unit) w4.heap.size bn _ _ _ () X Y row h3 hg hrow⟩
  case assign =>
    intro l' x W K hK
    gi_wp2
    exact hK
  case body =>
    rintro l' pre i W ⟨⟨hb, hs4⟩, h3⟩ hlen
    have hcs := HCB.out (pre.map (·.1))
    rw [List.length_map] at hcs
    have hcp := HCP.out p i.1
    have HSN : Aside0 (csum l p ((pre ++ [i]).map (·.1)) = csum l p (pre.map (·.1)) + costP (partL l p i.1)) := ⟨by rw [List.map_append]; exact csum_snoc l p _ i.1⟩
    have HPC : Aside0 (costP (partL l p i.1) = 4 + (bestW (partL l p i.1)).2) := ⟨rfl⟩
    have hpm := HPM.out W (Kd.C_below HC.out hb) i.1 i.2
    rw [HPL.out i.1 i.2] at hpm
    generalize csum l p (pre.map (·.1)) = s at *
    generalize bestW (partL l p i.1) = r at *
    generalize costP (partL l p i.1) = cp at *
    obtain ⟨k, x⟩ := r
    dsimp only at hpm HPC
    have hx := HPC.out
    have hxb : -4 ≤ x ∧ x ≤ 5700000 := by omega
    have hs8 : 0 ≤ s ∧ s ≤ 45600032 := by omega
    have HX := Aside0.mk hx
    have HPM1 := Aside0.mk hpm
    have H3 := Aside0.mk h3
    have HB := Aside0.mk hb
    have HS4 := Aside0.mk hs4
    clear hpm h3 hb HPC hx hcs hcp
    gi_wp2
    refine ⟨trivial, ?_⟩
    have hcall := callsIn_wide (n := 2).2 HPM1.out
    refine CallsIn.mono (show CallsIn (Fence.wide.inRound l') 2 Tryz.prog _ _ W _ from hcall) ?_
    rintro e W' ⟨rfl, hb2⟩
    have h32 := blk_fr H3.out (Fr.below hb2 (fun _ => False)) (fun h => h)
    have c32 := cell_of_one h32
    have f32 : W'.frozen? ⟨bn, 0, none⟩ = false := blk_frozen h32 0
    have H32 := Aside0.mk h32
    have HB2 := Aside0.mk hb2
    clear hb2 h32
    gi_wp2
    have hfr : Fr (fun k => k = bn) W (W'.setCell ⟨bn, 0, none⟩ (.int .i64 (2 + s + (4 + x)))) := Fr.setCell (S := fun k => k = bn) (Fr.below HB2.out _) (p := ⟨bn, 0, none⟩) (fun _ => rfl) _
    refine ⟨hfr.keepsFrom (fun k hk o ho => ?_), hfr.mono (fun k _ hk => ?_), ⟨HB.out.trans (hfr.to_below HB.out.size (fun k hk => ?_)), Nat.le_trans HS4.out hfr.size⟩, ?_⟩
    · subst hk; rw [H3.out] at ho; cases ho; rfl
    · have := HN.out; subst hk; exact ⟨by omega, by omega, by omega⟩
    · have := HN.out; omega
    · rw [heap_setCell_same _ _ _ _ _ _ H32.out, HSN.out, HX.out]
      have e : 2 + s + (4 + x) = 2 + (s + (4 + x)) := by omega
      rw [e]
      rfl
  case done =>
    rintro D ys W hD hys ⟨⟨hb, hs4⟩, h3⟩ hK
    rw [hys] at h3
    have c3 := cell_of_one h3
    have HB := Aside0.mk hb
    have HK := Aside0.mk hK
    have hw := HWW.out
    rw [← hw] at c3
    clear h3 hb hK hys hw
    (try simp only [Exit.inBlock, Exit.then])
    go_wp2_with fail
    refine ⟨by simp, .inl ⟨_, _, rfl, run_takeDeferred HK.out, ?_⟩⟩
    have hfD : Fr (fun k => k = D) W (W.putObj D (.deferred none)) := (Fr.refl _ _).grown (grownBy_putObj' W D (.deferred none)) (fun k _ e => by cases e; rfl)
    refine ⟨_, results_tmp2 rfl _ _ _, rfl, HB.out.trans (hfD.to_below HB.out.size (fun k hk => by subst hk; have := HB4.out.size; omega))⟩
  case stop =>
    rintro D c pre W _ _ h _
    exact h.elim
theorem chs_order (l : List Int) : chs (fun p => if divB l.length p then wholeW l p else 0) (divB l.length) 4 = orderW l := by
  have h0 : divB l.length 0 = true := by simp [divB, Nat.mod_one]
  show iter (cst (fun p => if divB l.length p then wholeW l p else 0) (divB l.length)) 3 1 (0, if divB l.length 0 then wholeW l 0 else 0) = iter (ostep l) 3 1 (0, wholeW l 0)
  rw [h0, if_pos rfl]
  congr 1
  funext s k
  unfold cst ostep bstep
  by_cases h : divB l.length k = true
  · simp [h]
  · simp [h]
theorem order_any (A : Option Addr) (c : Nat) (l : List Int) (w : World) (hC : Kd.C (Kd.int .i64) w A l.length l) (hc : l.length ≤ c) (hs : smallL l) (hl : l.length ≤ 100000) :
    Calls Tryz.prog 130 #[.slice A l.length c] w fun e w' => e = .returned (.tuple #[.int .i64 (orderW l).1, .int .i64 (orderW l).2]) ∧ Below w.heap.size w w' := by
  obtain ⟨w1, hw1⟩ : ∃ w1, w1 = w.alloc (listBox A l.length c) := ⟨_, rfl⟩
  obtain ⟨b, hb⟩ : ∃ b, b = w.heap.size := ⟨_, rfl⟩
  have hb1 : Below w.heap.size w w1 := by rw [hw1]; exact below_alloc (Below.refl _ _) _
  have hk1 : w1.heap[b]? = some (listBox A l.length c) := by rw [hw1, hb]; exact World.alloc_heap_new w _
  have hch := cheapest_any 163 #[.pointer (some ⟨b, 0, none⟩)] (enters_of Tryz.func163 (by kernel_rfl) rfl) 3 (by omega) (fun p => if divB l.length p then wholeW l p else 0) (divB l.length) w1 (by simp [divB, Nat.mod_one])
    (fun k W hk hW => order1_any A c l b k W (blk_fr hk1 (Fr.below hW (fun _ => False)) (fun h => h)) (Kd.C_below hC (hb1.trans (hW.mono hb1.size))) hc hs hl hk)
  rw [chs_order] at hch
  have HCH := Aside0.mk hch
  have HB1 := Aside0.mk hb1
  have HE : Aside0 (w.alloc (.cells #[.slice A l.length c] 22) = w1) := ⟨hw1.symm⟩
  have HB := Aside0.mk hb
  generalize orderW l = r at *
  clear hC hs hw1 hb hb1 hk1 hch
  go_enter Tryz.func130, Tryz.ntmps130
  go_wp2_with fail
  rw [HE.out, ← HB.out]
  refine HCH.out.mono ?_
  rintro e w2 ⟨rfl, hd⟩
  have HB2 := Aside0.mk (HB1.out.trans (hd.mono HB1.out.size))
  clear hd
  go_wp2_with fail
  go_ret2
  exact ⟨rfl, HB2.out⟩
end Go.Proofs.YtjcijaojcgampaaGreatDoor.P
end
section
namespace Go.Proofs.YtjcijaojcgampaaGreatDoor.P
open Go.RowKit Go.Shelf Go.Proofs.YtjcijaojcgampaaGreatDoor.Bits Go.Proofs.YtjcijaojcgampaaGreatDoorW.PrintWords Go.Proofs.YtjcijaojcgampaaGreatDoorW.PrintLast Go.Proofs.YtjcijaojcgampaaGreatDoorW.PrintMore
theorem shr_nat64 (x : Int) (k : Nat) (hk : k ≤ 63) : shr .i64 x (k : Int) = x / 2 ^ k := by
  unfold shr
  rw [Int.toNat_natCast, Nat.min_eq_left (show k ≤ IntKind.i64.bits by show k ≤ 64; omega)]
theorem shr_nat8 (x : Int) (k : Nat) (hk : k ≤ 7) : shr .u8 x (k : Int) = x / 2 ^ k := by
  unfold shr
  rw [Int.toNat_natCast, Nat.min_eq_left (show k ≤ IntKind.u8.bits by show k ≤ 8; omega)]
theorem numb_cons (v : Int) (n : Nat) : numb v (n + 1) = (v / 2 ^ n % 2) :: numb v n := by
  unfold numb
  rw [List.range_succ_eq_map, List.map_cons, List.map_map]
  congr 1
  refine List.map_congr_left (fun i hi => ?_)
  simp only [Function.comp]
  rw [show n + 1 - 1 - (i + 1) = n - 1 - i by omega]
theorem put17_l0 (v : Int) (hv : -9223372036854775808 ≤ v ∧ v < 9223372036854775808) : ∀ (n f : Nat) (L : List Int), n ≤ 60 → n < f → L.length + n ≤ 100000000 → shawmref17_Put.l0 f L v ((n : Int) - 1) = some (L ++ numb v n)
  | _, 0, _, _, h, _ => by omega
  | 0, f + 1, L, _, _, _ => by
    unfold shawmref17_Put.l0
    rw [if_neg (by omega)]
    simp [numb]
  | n + 1, f + 1, L, hn, hf, hL => by
    have hb : Go.bits .and .i64 (shr .i64 v (n : Int)) 1 = v / 2 ^ n % 2 := by
      rw [shr_nat64 v n (by omega)]
      have hp : (0 : Int) < 2 ^ n := Int.pow_pos (by omega)
      exact and1_i64 _ ⟨by
        have h1 := Int.ediv_le_ediv hp (show -9223372036854775808 * 1 ≤ v by omega)
        by_cases h0 : 0 ≤ v
        · have := Int.ediv_nonneg h0 (Int.le_of_lt hp); omega
        · have h2 : v ≤ v / 2 ^ n := by
            refine Int.le_ediv_of_mul_le hp ?_
            have h4 : (1 : Int) ≤ 2 ^ n := hp
            have h5 : 0 ≤ -v * (2 ^ n - 1) := Int.mul_nonneg (by omega) (by omega)
            rw [Int.mul_sub, Int.neg_mul] at h5
            omega
          omega, by
        by_cases h0 : 0 ≤ v
        · have := Int.ediv_le_self (2 ^ n) h0; omega
        · have := Int.ediv_neg_of_neg_of_pos (show v < 0 by omega) hp; omega⟩
    unfold shawmref17_Put.l0
    have hm : v / 2 ^ n % 2 % 256 = v / 2 ^ n % 2 := Int.emod_eq_of_lt (by omega) (by omega)
    rw [show (((n + 1 : Nat)) : Int) - 1 = (n : Int) by omega, if_pos (by omega), if_pos (by omega), if_pos (by omega), hb, hm, wrap64_id (by omega) (by omega), put17_l0 v hv n f _ (by omega) (by omega) (by rw [List.length_append]; simp only [List.length_singleton]; omega), numb_cons]
    simp
theorem put17_f {v : Int} (hv : -9223372036854775808 ≤ v ∧ v < 9223372036854775808) {n : Nat} (hn : n ≤ 60) {L : List Int} (hL : L.length + n ≤ 100000000) {f : Nat} (hf : n < f) : shawmref17_Put.f f L v (n : Int) = some (L ++ numb v n) := by
  unfold shawmref17_Put.f
  rw [wrap64_id (by omega) (by omega)]
  exact put17_l0 v hv n f L hn hf hL
theorem bits17_l0 (B : List Int) (h8 : is8 B) (hB : B.length ≤ 1000000000) (n : Nat) (hn : n ≤ 8 * B.length) : ∀ (f i : Nat), i ≤ n → n - i < f → shawmref17_Bits.l0 f B (n : Int) (ofB B i) (i : Int) = some (ofB B n)
  | 0, _, _, h => by omega
  | f + 1, i, hi, hf => by
    unfold shawmref17_Bits.l0
    by_cases hlt : i < n
    · have e1 : Int.tdiv (i : Int) 8 = ((i / 8 : Nat) : Int) := by rw [Int.tdiv_eq_ediv_of_nonneg (by omega)]; push_cast; rfl
      have e2 : Int.tmod (i : Int) 8 = ((i % 8 : Nat) : Int) := by rw [Int.tmod_eq_emod_of_nonneg (by omega)]; push_cast; rfl
      have e3 : wrap64 (7 - ((i % 8 : Nat) : Int)) = ((7 - i % 8 : Nat) : Int) := by rw [wrap64_id (by omega) (by omega)]; omega
      have e4 : wrap64 ((i / 8 : Nat) : Int) = ((i / 8 : Nat) : Int) := wrap64_id (by omega) (by omega)
      have hr : rd B ((i / 8 : Nat) : Int) = B.getD (i / 8) 0 := by unfold rd; rw [Int.toNat_natCast]
      have hx := getD8 h8 (i / 8)
      have hb : Go.bits .and .u8 (shr .u8 (B.getD (i / 8) 0) ((7 - i % 8 : Nat) : Int)) 1 = bitAt B i := by
        rw [shr_nat8 _ _ (by omega)]
        have hp : (0 : Int) < 2 ^ (7 - i % 8) := Int.pow_pos (by omega)
        rw [and1_u8 _ ⟨Int.ediv_nonneg hx.1 (Int.le_of_lt hp), by have := Int.ediv_le_self (2 ^ (7 - i % 8)) hx.1; omega⟩]
        unfold bitAt
        rfl
      have H : Aside0 ((Int.tdiv (i : Int) 8 = ((i / 8 : Nat) : Int) ∧ Int.tmod (i : Int) 8 = ((i % 8 : Nat) : Int)) ∧ (wrap64 (7 - ((i % 8 : Nat) : Int)) = ((7 - i % 8 : Nat) : Int) ∧ wrap64 ((i / 8 : Nat) : Int) = ((i / 8 : Nat) : Int)) ∧ rd B ((i / 8 : Nat) : Int) = B.getD (i / 8) 0 ∧ Go.bits .and .u8 (shr .u8 (B.getD (i / 8) 0) ((7 - i % 8 : Nat) : Int)) 1 = bitAt B i) := ⟨⟨⟨e1, e2⟩, ⟨e3, e4⟩, hr, hb⟩⟩
      clear e1 e2 e3 e4 hr hb hx
      have w1 : Aside0 (wrap64 ((i : Int) + 1) = ((i + 1 : Nat) : Int)) := ⟨by rw [wrap64_id (by omega) (by omega)]; rfl⟩
      have w2 : Aside0 (wrap64 (8 * (B.length : Int)) = 8 * (B.length : Int)) := ⟨wrap64_id (by omega) (by omega)⟩
      rw [if_pos (by omega), w2.out, if_pos (by omega), H.out.1.1, H.out.1.2, H.out.2.1.1, H.out.2.1.2, if_pos (by omega), if_pos (by omega), if_pos (by omega), if_pos (by rw [ofB_length]; omega), H.out.2.2.1, H.out.2.2.2, ← ofB_succ, w1.out]
      exact bits17_l0 B h8 hB n hn f (i + 1) (by omega) (by omega)
    · obtain rfl : i = n := by omega
      rw [if_neg (by omega)]
theorem bits17_f {B : List Int} (h8 : is8 B) (hB : B.length ≤ 1000000000) {n : Nat} (hn : n ≤ 8 * B.length) : shawmref17_Bits.f (n + 1) B (n : Int) = some (ofB B n) := by
  unfold shawmref17_Bits.f
  have := bits17_l0 B h8 hB n hn (n + 1) 0 (by omega) (by omega)
  exact this
end Go.Proofs.YtjcijaojcgampaaGreatDoor.P
end
