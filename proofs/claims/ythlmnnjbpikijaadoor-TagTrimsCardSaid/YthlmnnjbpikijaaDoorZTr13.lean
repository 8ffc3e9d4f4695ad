/- Plain facts of chapter 27: bytes that are stuffed, and stripped; keys; tags. Plain: the bytes of a tag, and their bits. -/
import Derived.Test.YthlmnnjbpikijaaDoorZTr10
import Derived.Test.YthlmnnjbpikijaaDoorZTr12
import Derived.Test.YthlmnnjbpikijaaDoorZTr9
section
namespace Go.Proofs.YthlmnnjbpikijaaDoor.P
open Go.RowKit Go.Proofs.YthlmnnjbpikijaaDoor.Bits Go.Proofs.YthlmnnjbpikijaaDoorW.PrintWords
set_option linter.unusedVariables false
set_option linter.unusedSimpArgs false
/-- A byte behind which a zero is put: 255, at the end or ahead of 0 or of 224 or more. -/
def hot (c : Int) (t : List Int) : Prop := c = 255 ∧ (t.getD 0 0 = 0 ∨ 224 ≤ t.getD 0 0)
instance (c : Int) (t : List Int) : Decidable (hot c t) := by unfold hot; exact inferInstance
def stf : List Int → List Int
  | [] => []
  | c :: t => if hot c t then c :: 0 :: stf t else c :: stf t
/-- Bytes without the zeros behind 255; p is the byte ahead. -/
def strp : Int → List Int → List Int
  | _, [] => []
  | p, c :: t => if c = 0 ∧ p = 255 then strp c t else c :: strp c t
def fStrip (b : List Int) : List Int × Int := if stf (strp 0 b) = b then (strp 0 b, 0) else ([], 4)
theorem stf_8 : ∀ {b : List Int}, is8 b → is8 (stf b)
  | [], _ => fun x h => by cases h
  | c :: t, h => by
    have hc := h c (by simp)
    have ht := stf_8 (b := t) (fun x hx => h x (by simp [hx]))
    intro x hx
    unfold stf at hx
    split at hx
    · simp only [List.mem_cons] at hx
      rcases hx with rfl | rfl | hx
      · exact hc
      · omega
      · exact ht x hx
    · simp only [List.mem_cons] at hx
      rcases hx with rfl | hx
      · exact hc
      · exact ht x hx
theorem stf_len : ∀ b : List Int, b.length ≤ (stf b).length ∧ (stf b).length ≤ 2 * b.length
  | [] => by simp [stf]
  | c :: t => by
    have := stf_len t
    unfold stf
    split <;> simp only [List.length_cons] <;> omega
theorem strp_len : ∀ (b : List Int) (p : Int), (strp p b).length ≤ b.length
  | [], _ => by simp [strp]
  | c :: t, p => by
    have := strp_len t c
    unfold strp
    split <;> simp only [List.length_cons] <;> omega
theorem strp_8 : ∀ {b : List Int} (p : Int), is8 b → is8 (strp p b)
  | [], _, _ => fun x h => by simp [strp] at h
  | c :: t, p, h => by
    have ht := strp_8 (b := t) c (fun x hx => h x (by simp [hx]))
    intro x hx
    unfold strp at hx
    split at hx
    · exact ht x hx
    · simp only [List.mem_cons] at hx
      rcases hx with rfl | hx
      · exact h x (by simp)
      · exact ht x hx
/-- A list behind place i, taken apart. -/
theorem drop_at (b : List Int) (i : Nat) (h : i < b.length) : b.drop i = b.getD i 0 :: b.drop (i + 1) := by
  rw [List.drop_eq_getElem_cons h, List.getD_eq_getElem?_getD, List.getElem?_eq_getElem h]
  rfl
theorem drop_getD (b : List Int) (i j : Nat) : (b.drop i).getD j 0 = b.getD (i + j) 0 := by
  simp [List.getD_eq_getElem?_getD]
/-- What is put out for the byte at i. -/
def stfAt (b : List Int) (i : Nat) : List Int := if b.getD i 0 = 255 ∧ (b.getD (i + 1) 0 = 0 ∨ 224 ≤ b.getD (i + 1) 0) then [b.getD i 0, 0] else [b.getD i 0]
theorem stf_drop (b : List Int) (i : Nat) (h : i < b.length) : stf (b.drop i) = stfAt b i ++ stf (b.drop (i + 1)) := by
  rw [drop_at b i h, stf]
  have e := drop_getD b (i + 1) 0
  rw [Nat.add_zero] at e
  simp only [hot, stfAt, e]
  split <;> rfl
/-- The byte ahead of place i. -/
def prv (b : List Int) (i : Nat) : Int := if i = 0 then 0 else b.getD (i - 1) 0
theorem strp_drop (b : List Int) (i : Nat) (h : i < b.length) : strp (prv b i) (b.drop i) = (if b.getD i 0 = 0 ∧ 0 < i ∧ b.getD (i - 1) 0 = 255 then [] else [b.getD i 0]) ++ strp (prv b (i + 1)) (b.drop (i + 1)) := by
  have e1 : prv b (i + 1) = b.getD i 0 := by unfold prv; simp
  rw [e1]
  conv => lhs; rw [drop_at b i h]
  rw [strp]
  by_cases h0 : b.getD i 0 = 0
  · by_cases hi : i = 0
    · subst hi
      have : prv b 0 = 0 := rfl
      rw [this]
      simp
    · have hp : prv b i = b.getD (i - 1) 0 := by unfold prv; rw [if_neg hi]
      rw [hp]
      by_cases h5 : b.getD (i - 1) 0 = 255
      · rw [if_pos ⟨h0, h5⟩, if_pos ⟨h0, by omega, h5⟩]; rfl
      · rw [if_neg (fun q => h5 q.2), if_neg (fun q => h5 q.2.2)]; rfl
  · rw [if_neg (fun q => h0 q.1), if_neg (fun q => h0 q.1)]; rfl
/-! Keys. -/
def okC (c : Int) : Bool := decide (65 ≤ c ∧ c ≤ 90) || decide (48 ≤ c ∧ c ≤ 57)
def keyOk (s : ByteArray) : Bool := decide (s.size = 4) && (okC (bt s 0) && okC (bt s 1) && okC (bt s 2) && okC (bt s 3))
abbrev K4 (a b c d : Int) : Value := .agg #[.int .u8 a, .int .u8 b, .int .u8 c, .int .u8 d]
/-- The bytes of a key; four zeros, if the string has another length. -/
def kb (s : ByteArray) (i : Int) : Int := if s.size = 4 then bt s i else 0
abbrev KV (s : ByteArray) : Value := K4 (kb s 0) (kb s 1) (kb s 2) (kb s 3)
theorem keyOk_size {s : ByteArray} (h : keyOk s = true) : s.size = 4 := by
  unfold keyOk at h
  simp at h
  exact h.1
/-- Strings of four bytes are the same, if their bytes are. -/
theorem str_ext {s t : ByteArray} (h : s.size = t.size) (he : ∀ i : Nat, i < s.size → bt s (i : Int) = bt t (i : Int)) : s = t := by
  apply ByteArray.ext
  apply Array.ext
  · exact h
  · intro i h1 h2
    have := he i h1
    unfold bt at this
    rw [dif_pos (show (i : Int).toNat < s.size from h1), dif_pos (show (i : Int).toNat < t.size from h2)] at this
    have h3 : (s[i]'h1).toNat = (t[i]'h2).toNat := by
      have := this
      simp only [Int.toNat_natCast] at this
      exact Int.ofNat.inj this
    exact UInt8.toNat_inj.1 h3
theorem key_eq {s t : ByteArray} (hs : s.size = 4) (ht : t.size = 4) : KV s = KV t ↔ s = t := by
  constructor
  · intro h
    simp only [KV, K4, kb, hs, ht, if_pos, Value.agg.injEq, Array.mk.injEq, List.cons.injEq, Value.int.injEq, and_true, true_and] at h
    refine str_ext (by omega) fun i hi => ?_
    obtain ⟨h0, h1, h2, h3⟩ := h
    have : i = 0 ∨ i = 1 ∨ i = 2 ∨ i = 3 := by omega
    rcases this with rfl | rfl | rfl | rfl <;> assumption
  · rintro rfl; rfl
/-! Tags. -/
/-- The element at j. -/
abbrev nth (l : List S56) (j : Nat) : S56 := l.getD j z56
/-- The first place of a key, from i on. -/
def seekK (k : ByteArray) : List S56 → Nat → Option Nat
  | [], _ => none
  | f :: l, i => if f.f0 = k then some i else seekK k l (i + 1)
/-- A field is right behind those ahead of it. -/
def goodF (l : List S56) (j : Nat) : Bool := keyOk (nth l j).f0 && (seekK (nth l j).f0 (l.take j) 0).isNone && decide ((nth l j).f1.size ≤ 1000)
def okFs (l : List S56) : Bool := (List.range l.length).all (goodF l)
theorem okFs_iff (l : List S56) : okFs l = true ↔ ∀ j, j < l.length → goodF l j = true := by
  unfold okFs
  rw [List.all_eq_true]
  simp
theorem okFs_false {l : List S56} {j : Nat} (hj : j < l.length) (h : goodF l j = false) : okFs l = false := by
  cases e : okFs l with
  | false => rfl
  | true => rw [(okFs_iff l).1 e j hj] at h; cases h
def okN (n : Int) : Bool := decide (0 ≤ n ∧ n ≤ 8192)
/-- Whether two strings have one key. -/
def sameK (s t : ByteArray) : Bool := ((kb s 0 == kb t 0 && kb s 1 == kb t 1) && kb s 2 == kb t 2) && kb s 3 == kb t 3
theorem sameK_iff {s t : ByteArray} (hs : s.size = 4) (ht : t.size = 4) : sameK s t = true ↔ s = t := by
  rw [← key_eq hs ht]
  unfold sameK KV K4
  simp [and_assoc]
def seekV (s : ByteArray) : List S56 → Nat → Option Nat
  | [], _ => none
  | f :: l, i => if sameK s f.f0 = true then some i else seekV s l (i + 1)
theorem seekV_eq {s : ByteArray} (hs : s.size = 4) : ∀ (l : List S56) (i : Nat), (∀ f ∈ l, f.f0.size = 4) → seekV s l i = seekK s l i
  | [], _, _ => rfl
  | f :: l, i, h => by
    have hf := h f (by simp)
    rw [seekV, seekK, seekV_eq hs l (i + 1) (fun g hg => h g (by simp [hg]))]
    by_cases e : f.f0 = s
    · rw [if_pos e, if_pos ((sameK_iff hs hf).2 e.symm)]
    · rw [if_neg e, if_neg (fun q => e ((sameK_iff hs hf).1 q).symm)]
theorem seekK_some {k : ByteArray} : ∀ {l : List S56} {i j : Nat}, seekK k l i = some j → i ≤ j ∧ j < i + l.length ∧ (nth l (j - i)).f0 = k ∧ ∀ m, i ≤ m → m < j → (nth l (m - i)).f0 ≠ k
  | [], _, _, h => by cases h
  | f :: l, i, j, h => by
    rw [seekK] at h
    split at h
    case isTrue e =>
      obtain rfl := Option.some.inj h
      refine ⟨Nat.le_refl _, by simp, by simpa [nth] using e, fun m h1 h2 => by omega⟩
    case isFalse e =>
      obtain ⟨h1, h2, h3, h4⟩ := seekK_some h
      refine ⟨by omega, by simp only [List.length_cons]; omega, ?_, fun m h5 h6 => ?_⟩
      · rw [show j - i = (j - (i + 1)) + 1 by omega]
        simpa [nth] using h3
      · by_cases hm : m = i
        · subst hm; simpa [nth] using e
        · have := h4 m (by omega) h6
          rw [show m - i = (m - (i + 1)) + 1 by omega]
          simpa [nth] using this
theorem good_keys {l : List S56} (h : okFs l = true) : ∀ f ∈ l, f.f0.size = 4 := fun f hf => by
  obtain ⟨j, hj, e⟩ := List.getElem_of_mem hf
  have := (okFs_iff l).1 h j hj
  unfold goodF at this
  simp only [Bool.and_eq_true] at this
  have h2 := keyOk_size this.1.1
  rwa [show nth l j = f by unfold nth; rw [List.getD_eq_getElem?_getD, List.getElem?_eq_getElem hj]; exact e] at h2
theorem take_good {l : List S56} {k : Nat} (hk : k ≤ l.length) (h : ∀ j, j < k → goodF l j = true) : ∀ f ∈ l.take k, f.f0.size = 4 := fun f hf => by
  obtain ⟨j, hj, e⟩ := List.getElem_of_mem hf
  rw [List.length_take] at hj
  have := h j (by omega)
  unfold goodF at this
  simp only [Bool.and_eq_true] at this
  have h2 := keyOk_size this.1.1
  rw [List.getElem_take] at e
  rwa [show nth l j = f by unfold nth; rw [List.getD_eq_getElem?_getD, List.getElem?_eq_getElem (by omega)]; exact e] at h2
structure TG where
  skip : Int
  cut : Int
  fs : List S56
def TG0 : TG := ⟨0, 0, []⟩
def okT (t : TG) : Bool := okN t.skip && okN t.cut && decide (t.fs.length ≤ 32) && okFs t.fs
end Go.Proofs.YthlmnnjbpikijaaDoor.P
end
section
namespace Go.Proofs.YthlmnnjbpikijaaDoor.P
open Go.RowKit Go.Proofs.YthlmnnjbpikijaaDoor.Bits Go.Proofs.YthlmnnjbpikijaaDoorW.PrintWords
set_option linter.unusedVariables false
set_option linter.unusedSimpArgs false
theorem bitAt_left (B C : List Int) (i : Nat) (h : i < 8 * B.length) : bitAt (B ++ C) i = bitAt B i := by
  unfold bitAt
  rw [List.getD_eq_getElem?_getD, List.getElem?_append_left (by omega), ← List.getD_eq_getElem?_getD]
theorem bitAt_right (B C : List Int) (i : Nat) : bitAt (B ++ C) (8 * B.length + i) = bitAt C i := by
  unfold bitAt
  rw [List.getD_eq_getElem?_getD, List.getElem?_append_right (by omega), ← List.getD_eq_getElem?_getD, show (8 * B.length + i) / 8 - B.length = i / 8 by omega, show (8 * B.length + i) % 8 = i % 8 by omega]
theorem ofB_cat (B C : List Int) : ofB (B ++ C) (8 * (B ++ C).length) = ofB B (8 * B.length) ++ ofB C (8 * C.length) := by
  unfold ofB
  rw [List.length_append, show 8 * (B.length + C.length) = 8 * B.length + 8 * C.length by omega, List.range_add, List.map_append, List.map_map]
  congr 1
  · exact List.map_congr_left fun i hi => bitAt_left B C i (by simpa using hi)
  · exact List.map_congr_left fun i hi => bitAt_right B C i
theorem ofB_byte1 (x : Int) : ofB [x] 8 = numb x 8 := by
  unfold ofB numb
  refine List.map_congr_left fun i hi => ?_
  have h8 : i < 8 := by simpa using hi
  unfold bitAt
  rw [show i / 8 = 0 by omega, show i % 8 = i by omega]
  rfl
def two (v : Int) : List Int := [v / 256 % 256, v % 256]
theorem two_8 (v : Int) : is8 (two v) := by
  intro x hx
  unfold two at hx
  simp at hx
  omega
theorem numb_split (v : Int) : ∀ (m n : Nat), numb v (m + n) = numb (v / 2 ^ n) m ++ numb v n
  | m, 0 => by simp [numb]
  | m, n + 1 => by
    rw [← Nat.add_assoc, numb_succ, numb_split (v / 2) m n, numb_succ v n, ← List.append_assoc]
    congr 2
    rw [Int.pow_succ, Int.mul_comm, ← Int.ediv_ediv_of_nonneg (by omega)]
theorem numb_mod (v : Int) : ∀ n : Nat, numb (v % 2 ^ n) n = numb v n
  | 0 => rfl
  | n + 1 => by
    rw [numb_succ, numb_succ]
    have hd : v / (2 * 2 ^ n) = v / 2 / 2 ^ n := (Int.ediv_ediv_of_nonneg (by omega)).symm
    have hm := Int.emod_def v (2 * 2 ^ n)
    have hr := Int.emod_def (v / 2) (2 ^ n)
    rw [hd, Int.mul_assoc] at hm
    have hp : (2 : Int) ^ (n + 1) = 2 * 2 ^ n := by rw [Int.pow_succ, Int.mul_comm]
    generalize (2 : Int) ^ n * (v / 2 / 2 ^ n) = t at *
    have h1 : v % 2 ^ (n + 1) / 2 = v / 2 % 2 ^ n := by rw [hp, hm, hr]; omega
    have h2 : v % 2 ^ (n + 1) % 2 = v % 2 := by rw [hp, hm]; omega
    rw [h1, h2, numb_mod (v / 2) n]
theorem ofB_two (v : Int) : ofB (two v) 16 = numb v 16 := by
  have h := ofB_cat [v / 256 % 256] [v % 256]
  have e : two v = [v / 256 % 256] ++ [v % 256] := rfl
  rw [e]
  have h2 : ofB ([v / 256 % 256] ++ [v % 256]) 16 = ofB [v / 256 % 256] 8 ++ ofB [v % 256] 8 := h
  rw [h2, ofB_byte1, ofB_byte1, numb_split v 8 8]
  have a := numb_mod (v / 256) 8
  have b := numb_mod v 8
  simp only [Int.reducePow] at a b ⊢
  rw [a, b]
/-- The bytes of a field. -/
def fldB (f : S56) : List Int := bytesOf f.f0 ++ (two f.f1.size ++ bytesOf f.f1)
/-- The plain content of a tag. -/
def tagB (t : TG) : List Int := two t.skip ++ (two t.cut ++ ([(t.fs.length : Int) % 256] ++ t.fs.flatMap fldB))
def fldBits' (f : S56) : List Int := ofB (bytesOf f.f0) (8 * f.f0.size) ++ (numb f.f1.size 16 ++ ofB (bytesOf f.f1) (8 * f.f1.size))
def tagBits (t : TG) : List Int := numb t.skip 16 ++ (numb t.cut 16 ++ (numb t.fs.length 8 ++ t.fs.flatMap fldBits'))
theorem fld_bits (f : S56) : ofB (fldB f) (8 * (fldB f).length) = fldBits' f := by
  unfold fldB fldBits'
  rw [ofB_cat, ofB_cat, bytesOf_length, bytesOf_length]
  congr 2
  exact ofB_two _
theorem flds_bits : ∀ l : List S56, ofB (l.flatMap fldB) (8 * (l.flatMap fldB).length) = l.flatMap fldBits'
  | [] => rfl
  | f :: l => by rw [List.flatMap_cons, List.flatMap_cons, ofB_cat, fld_bits, flds_bits l]
theorem tag_bits (t : TG) : ofB (tagB t) (8 * (tagB t).length) = tagBits t := by
  unfold tagB tagBits
  rw [ofB_cat, ofB_cat, ofB_cat, flds_bits]
  have h1 : ofB (two t.skip) (8 * (two t.skip).length) = numb t.skip 16 := ofB_two _
  have h2 : ofB (two t.cut) (8 * (two t.cut).length) = numb t.cut 16 := ofB_two _
  have h3 : ofB [(t.fs.length : Int) % 256] (8 * [(t.fs.length : Int) % 256].length) = numb t.fs.length 8 := by
    have a := numb_mod (t.fs.length : Int) 8
    have b := ofB_byte1 ((t.fs.length : Int) % 256)
    simp only [Int.reducePow] at a
    rw [← a]
    exact b
  rw [h1, h2, h3]
theorem bytesOf_8 (s : ByteArray) : is8 (bytesOf s) := by
  intro x hx
  unfold bytesOf at hx
  obtain ⟨b, _, rfl⟩ := List.mem_map.1 hx
  have := b.toNat_lt
  omega
theorem is8_app {A B : List Int} (h : is8 A) (k : is8 B) : is8 (A ++ B) := fun b hb => by
  rcases List.mem_append.1 hb with q | q
  · exact h b q
  · exact k b q
theorem fldB_8 (f : S56) : is8 (fldB f) := is8_app (bytesOf_8 _) (is8_app (two_8 _) (bytesOf_8 _))
theorem tagB_8 (t : TG) : is8 (tagB t) := is8_app (two_8 _) (is8_app (two_8 _) (is8_app (fun x hx => by simp at hx; omega) (fun x hx => by
  obtain ⟨f, _, hf⟩ := List.mem_flatMap.1 hx
  exact fldB_8 f x hf)))
theorem pk_tagBits (t : TG) : pk (tagBits t) = tagB t := by rw [← tag_bits]; exact pk_ofB (tagB_8 t)
theorem fldBits_len (f : S56) : (fldBits' f).length = 8 * f.f0.size + 16 + 8 * f.f1.size := by
  unfold fldBits'
  rw [List.length_append, List.length_append, ofB_length, ofB_length, numb_length]
  omega
theorem flds_len : ∀ (l : List S56), (∀ f ∈ l, f.f0.size ≤ 4 ∧ f.f1.size ≤ 1000) → (l.flatMap fldBits').length ≤ l.length * 8048
  | [], _ => by simp
  | f :: l, h => by
    have := flds_len l (fun g hg => h g (by simp [hg]))
    have h0 := h f (by simp)
    rw [List.flatMap_cons, List.length_append, fldBits_len, List.length_cons]
    omega
theorem good_small {l : List S56} (h : okFs l = true) : ∀ f ∈ l, f.f0.size ≤ 4 ∧ f.f1.size ≤ 1000 := fun f hf => by
  obtain ⟨j, hj, e⟩ := List.getElem_of_mem hf
  have := (okFs_iff l).1 h j hj
  rw [goodF, show nth l j = f by unfold nth; rw [List.getD_eq_getElem?_getD, List.getElem?_eq_getElem hj]; exact e] at this
  simp only [Bool.and_eq_true, decide_eq_true_eq] at this
  have := keyOk_size this.1.1
  omega
theorem flds_take (l : List S56) (k : Nat) (h : k < l.length) : (l.take (k + 1)).flatMap fldBits' = (l.take k).flatMap fldBits' ++ fldBits' (nth l k) := by
  have e : l.take (k + 1) = l.take k ++ [nth l k] := by rw [List.take_succ_eq_append_getElem h]; congr 1; unfold nth; rw [List.getD_eq_getElem?_getD, List.getElem?_eq_getElem h]; rfl
  rw [e, List.flatMap_append]
  simp
theorem wPut_ok' (L : List Int) (v : Int) (n : Nat) (hn : n ≤ 32) (h : 0 ≤ v ∧ v < 2 ^ n) (hl : L.length + n ≤ 1048576) : wPut L v n = (0, L ++ numb v n) := by
  unfold wPut
  rw [if_neg (by rw [Int.toNat_natCast]; omega), Int.toNat_natCast]
  unfold wput putE putL
  rw [numb_length, if_neg (by omega), if_neg (by omega)]
theorem wAppend_ok (L B : List Int) (n : Nat) (hn : n = 8 * B.length) (hl : L.length + n ≤ 1048576) : wAppend L B (n : Int) = (0, L ++ ofB B n) := by
  unfold wAppend
  rw [if_neg (by omega), Int.toNat_natCast]
  unfold wput putE putL
  rw [ofB_length, if_neg (by omega), if_neg (by omega)]
end Go.Proofs.YthlmnnjbpikijaaDoor.P
end
