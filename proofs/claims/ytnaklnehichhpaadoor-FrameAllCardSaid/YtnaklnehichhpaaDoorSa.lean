/- All frames of a string of frames; what is lost of any bytes (plain law of FrameAll). -/
import Derived.Test.YtnaklnehichhpaaDoorRk
namespace Go.Proofs.YtnaklnehichhpaaDoor.P
open Go.RowKit Go.Shelf Go.Proofs.YtnaklnehichhpaaDoor.Bits Go.Proofs.YtnaklnehichhpaaDoorW.PrintWords Go.Proofs.YtnaklnehichhpaaDoorW.PrintLast Go.Proofs.YtnaklnehichhpaaDoorW.PrintMore
set_option linter.unusedVariables false
set_option linter.unusedSimpArgs false

/-- A part: what stands ahead of a frame, and the frame. -/
structure PD where
  before : List Int
  h : HD
  body : List Int
abbrev SA := List Int × List Int × List Int
def skipA (s : SA) (x : PD) : Bool := decide ((fWrite x.h x.body).2 ≠ 0) || decide (5000 < s.1.length + x.before.length + (fWrite x.h x.body).1.length)
def stepA (s : SA) (x : PD) : SA := if skipA s x then s else (s.1 ++ x.before ++ (fWrite x.h x.body).1, s.2.1 ++ (fWrite x.h x.body).1, s.2.2 ++ [(s.2.1.length : Int)])
def partsA (l : List PD) : SA := l.foldl stepA ([], [], [])
theorem partsA_snoc (l : List PD) (x : PD) : partsA (l ++ [x]) = stepA (partsA l) x := by unfold partsA; rw [List.foldl_append]; rfl
def IsFrame (f : List Int) : Prop := ∃ h body, OkH h ∧ is8 body ∧ body.length ≤ 2047 ∧ f = wFrame h body
def chainF : List (List Int) → Nat → List (Nat × Nat)
  | [], _ => []
  | f :: fs, k => (k, k + f.length) :: chainF fs (k + f.length)
theorem chainF_snoc : ∀ (fs : List (List Int)) (f : List Int) (k : Nat), chainF (fs ++ [f]) k = chainF fs k ++ [(k + fs.flatten.length, k + fs.flatten.length + f.length)]
  | [], f, k => by simp [chainF]
  | g :: fs, f, k => by
    rw [List.cons_append, chainF, chainF_snoc fs f, chainF, List.cons_append]
    simp only [List.flatten_cons, List.length_append, Nat.add_assoc]
structure InvA (s : SA) : Prop where
  ex : ∃ fs : List (List Int), (∀ f ∈ fs, IsFrame f) ∧ s.2.1 = fs.flatten ∧ s.2.2 = (chainF fs 0).map fun x => (x.1 : Int)
  w8 : is8 s.1
  f8 : is8 s.2.1
  le : s.1.length ≤ 5000
  le2 : s.2.1.length ≤ s.1.length
  le3 : 9 * s.2.2.length ≤ s.2.1.length
theorem fWrite_8 {h : HD} {body : List Int} (h8 : is8 body) : is8 (fWrite h body).1 := by
  unfold fWrite
  split
  · intro b hb; simp at hb
  · split
    · intro b hb; simp at hb
    · exact wFrame_8 h h8
theorem fWrite_ok' {h : HD} {body : List Int} (e : (fWrite h body).2 = 0) : OkH h ∧ body.length ≤ 2047 ∧ (fWrite h body).1 = wFrame h body := by
  unfold fWrite at *
  by_cases h1 : okH h = false
  · rw [if_pos h1] at e; simp at e
  · rw [if_neg h1] at e ⊢
    by_cases h2 : 2047 < body.length
    · rw [if_pos h2] at e; simp at e
    · rw [if_neg h2]
      exact ⟨(okH_iff h).1 (by simpa using h1), by omega, rfl⟩
theorem InvA.step {s : SA} (hi : InvA s) (x : PD) (hb : is8 x.before) (hy : is8 x.body) : InvA (stepA s x) := by
  unfold stepA
  by_cases hs : skipA s x = true
  · rw [if_pos hs]; exact hi
  · rw [if_neg hs]
    unfold skipA at hs
    simp only [Bool.or_eq_true, decide_eq_true_eq, not_or, Nat.not_lt] at hs
    obtain ⟨h1, h2⟩ := hs
    have h1 : (fWrite x.h x.body).2 = 0 := by omega
    obtain ⟨fs, hf, e1, e2⟩ := hi.ex
    obtain ⟨ok, hl, e3⟩ := fWrite_ok' h1
    have hlen : (fWrite x.h x.body).1.length = 9 + x.body.length := by rw [e3, wFrame_length]
    refine ⟨⟨fs ++ [(fWrite x.h x.body).1], ?_, ?_, ?_⟩, is8_append (is8_append hi.w8 hb) (fWrite_8 hy), is8_append hi.f8 (fWrite_8 hy), ?_, ?_, ?_⟩
    · intro f hm
      rcases List.mem_append.1 hm with o | o
      · exact hf f o
      · rw [List.mem_singleton.1 o]; exact ⟨x.h, x.body, ok, hy, hl, e3⟩
    · dsimp only; rw [e1]; simp
    · dsimp only
      rw [e2, chainF_snoc, List.map_append, e1]; simp
    · dsimp only; simp only [List.length_append]; omega
    · have := hi.le2; dsimp only; simp only [List.length_append]; omega
    · have := hi.le3; dsimp only; simp only [List.length_append, List.length_singleton]; omega
theorem InvA.nil : InvA ([], [], []) := ⟨⟨[], fun f h => by simp at h, rfl, rfl⟩, fun b h => by simp at h, fun b h => by simp at h, by simp, by simp, by simp⟩
theorem partsA_inv : ∀ {l : List PD}, (∀ x ∈ l, is8 x.before ∧ is8 x.body) → InvA (partsA l) := by
  intro l
  have : ∀ (l : List PD) (s : SA), InvA s → (∀ x ∈ l, is8 x.before ∧ is8 x.body) → InvA (l.foldl stepA s) := by
    intro l
    induction l with
    | nil => intro s hs _; exact hs
    | cons x l ih =>
      intro s hs h
      exact ih _ (hs.step x (h x (by simp)).1 (h x (by simp)).2) (fun y hy => h y (by simp [hy]))
  exact fun h => this l _ InvA.nil h
theorem allN_chain : ∀ (fs : List (List Int)) (pre : List Int) (f : Nat), (∀ g ∈ fs, IsFrame g) → fs.length < f → allN (pre ++ fs.flatten) f pre.length = chainF fs pre.length
  | [], pre, f, _, hf => by
    obtain ⟨m, rfl⟩ : ∃ m, f = m + 1 := ⟨f - 1, by simp at hf; omega⟩
    rw [allN, nextF_end _ _ (by simp)]
    rfl
  | g :: fs, pre, f, hg, hf => by
    obtain ⟨m, rfl⟩ : ∃ m, f = m + 1 := ⟨f - 1, by omega⟩
    obtain ⟨h, body, ok, h8, hl, e⟩ := hg g (by simp)
    have hgl : g.length = 9 + body.length := by rw [e, wFrame_length]
    have hB : (pre ++ (g :: fs).flatten).length = pre.length + g.length + fs.flatten.length := by simp only [List.flatten_cons, List.length_append, Nat.add_assoc]
    have hr : fRead (pre ++ (g :: fs).flatten) (pre.length : Int) = (h, body, 0) := by
      rw [fRead_nat _ _ (by omega), List.drop_left, List.flatten_cons, e]
      exact read_back h body fs.flatten ok h8 hl
    have hok : okAt (pre ++ (g :: fs).flatten) pre.length = true := by unfold okAt; rw [hr]; rfl
    have he : endF (pre ++ (g :: fs).flatten) pre.length = pre.length + g.length := by unfold endF; rw [hr]; dsimp only; omega
    have hn : nextF (pre ++ (g :: fs).flatten) pre.length = some pre.length := by rw [nextF_step _ _ (by omega), if_pos hok]
    rw [allN, hn]
    dsimp only
    rw [he, chainF]
    have := allN_chain fs (pre ++ g) m (fun x hx => hg x (by simp [hx])) (by simp at hf; omega)
    rw [List.length_append] at this
    have e2 : pre ++ (g :: fs).flatten = (pre ++ g) ++ fs.flatten := by simp
    rw [e2, this]
theorem flatten_len : ∀ {fs : List (List Int)}, (∀ g ∈ fs, IsFrame g) → fs.length ≤ fs.flatten.length
  | [], _ => by simp
  | g :: fs, h => by
    obtain ⟨hh, body, _, _, _, e⟩ := h g (by simp)
    have hgl : g.length = 9 + body.length := by rw [e, wFrame_length]
    have := flatten_len (fs := fs) (fun x hx => h x (by simp [hx]))
    simp only [List.length_cons, List.flatten_cons, List.length_append]
    omega
theorem lost_chain : ∀ (fs : List (List Int)) (k : Nat) (O : List (Nat × Nat)), (chainF fs k).foldl (fun s x => (x.2, if s.1 < x.1 then s.2 ++ [(s.1, x.1)] else s.2)) (k, O) = (k + fs.flatten.length, O)
  | [], k, O => by simp [chainF]
  | g :: fs, k, O => by
    rw [chainF, List.foldl_cons]
    dsimp only
    rw [if_neg (by omega), lost_chain fs]
    simp only [List.flatten_cons, List.length_append, Nat.add_assoc]
theorem InvA.all {s : SA} (hi : InvA s) : placesF s.2.1 = s.2.2 ∧ lostF s.2.1 = [] := by
  obtain ⟨fs, hf, e1, e2⟩ := hi.ex
  have h1 := allN_chain fs [] (s.2.1.length + 1) hf (by have := flatten_len hf; rw [e1]; omega)
  rw [List.nil_append, ← e1, List.length_nil] at h1
  have h2 : allF s.2.1 = chainF fs 0 := h1
  have h3 : lostL (allF s.2.1) = (s.2.1.length, []) := by
    rw [h2]
    unfold lostL
    rw [lost_chain, e1]; simp
  refine ⟨by unfold placesF; rw [h2, e2], ?_⟩
  unfold lostF
  rw [h3, if_neg (by simp)]

def ChainP : Nat → List (Nat × Nat) → Prop
  | _, [] => True
  | k, x :: l => k ≤ x.1 ∧ ChainP x.2 l
theorem allN_chainP (B : List Int) : ∀ (f k : Nat), ChainP k (allN B f k)
  | 0, k => by rw [allN]; trivial
  | f + 1, k => by
    rw [allN]
    cases hn : nextF B k with
    | none => trivial
    | some i => exact ⟨(nextF_some hn).1, allN_chainP B f _⟩
theorem chain_drop {l : List (Nat × Nat)} (h : ChainP 0 l) : ∀ j, ChainP (lostL (l.take j)).1 (l.drop j)
  | 0 => by simpa [lostL] using h
  | j + 1 => by
    have ih := chain_drop h j
    by_cases hj : j < l.length
    · rw [List.drop_eq_getElem_cons hj] at ih
      rw [List.take_succ_eq_append_getElem hj, lostL_snoc]
      exact ih.2
    · rw [List.drop_eq_nil_of_le (by omega)]; trivial
theorem lost_le (B : List Int) (j : Nat) (hj : j < (allF B).length) : (lostL ((allF B).take j)).1 ≤ (allF B)[j].1 := by
  have h := chain_drop (l := allF B) (allN_chainP B _ 0) j
  rw [List.drop_eq_getElem_cons hj] at h
  exact h.1
theorem lost_ext : ∀ (m : List (Nat × Nat)) (s : Nat × List (Nat × Nat)), ∃ E X, m.foldl (fun s x => (x.2, if s.1 < x.1 then s.2 ++ [(s.1, x.1)] else s.2)) s = (E, s.2 ++ X)
  | [], s => ⟨s.1, [], by simp⟩
  | x :: m, s => by
    obtain ⟨E, X, e⟩ := lost_ext m (x.2, if s.1 < x.1 then s.2 ++ [(s.1, x.1)] else s.2)
    rw [List.foldl_cons, e]
    dsimp only
    split
    · exact ⟨E, [(s.1, x.1)] ++ X, by simp⟩
    · exact ⟨E, X, rfl⟩
theorem lost_pre (B : List Int) (j : Nat) : ∃ X, lostF B = (lostL ((allF B).take j)).2 ++ X := by
  obtain ⟨E, X, e⟩ := lost_ext ((allF B).drop j) (lostL ((allF B).take j))
  have h : lostL (allF B) = (E, (lostL ((allF B).take j)).2 ++ X) := by
    rw [← e]
    conv => lhs; rw [← List.take_append_drop j (allF B)]
    unfold lostL
    rw [List.foldl_append]
  unfold lostF
  rw [h]
  dsimp only
  split
  · exact ⟨X ++ [(E, B.length)], by simp⟩
  · exact ⟨X, rfl⟩
/-- Where a frame stands behind what was lost, the next of those that are lost is told. -/
theorem lost_at (B : List Int) (j : Nat) (hj : j < (allF B).length) (h : (lostL ((allF B).take j)).1 < (allF B)[j].1) :
    ∃ hs : (lostL ((allF B).take j)).2.length < (lostF B).length, (lostF B)[(lostL ((allF B).take j)).2.length] = ((lostL ((allF B).take j)).1, (allF B)[j].1) := by
  obtain ⟨X, e⟩ := lost_pre B (j + 1)
  rw [List.take_succ_eq_append_getElem hj, lostL_snoc, if_pos h] at e
  refine ⟨by rw [e]; simp, ?_⟩
  simp [e]
theorem lost_end (B : List Int) (h : (lostL (allF B)).1 < B.length) : ∃ hs : (lostL (allF B)).2.length < (lostF B).length, (lostF B)[(lostL (allF B)).2.length] = ((lostL (allF B)).1, B.length) ∧ (lostF B).length = (lostL (allF B)).2.length + 1 := by
  have e : lostF B = (lostL (allF B)).2 ++ [((lostL (allF B)).1, B.length)] := by unfold lostF; rw [if_pos h]
  refine ⟨by rw [e]; simp, ?_, by rw [e]; simp⟩
  simp [e]
end Go.Proofs.YtnaklnehichhpaaDoor.P
