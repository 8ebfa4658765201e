/- Plain facts on a stream of blocks: where sync marks are found, and what is read there. No program in sight. -/
import Derived.Test.YtimkjhjdddllcaaPlBlock
namespace Sat
def syncL : List UInt8 := [26, 207, 252, 29]
/-- does a block of 2 * sz bytes behind its mark begin at i? -/
def fitsAt (l : List UInt8) (sz i : Nat) : Bool := decide ((l.drop i).take 4 = syncL) && decide (i + 4 + 2 * sz ≤ l.length)
def fnd (l : List UInt8) (sz i : Nat) : List Nat :=
  if _h : i < l.length then (if fitsAt l sz i then (i + 4) :: fnd l sz (i + 4 + 2 * sz) else fnd l sz (i + 1)) else []
termination_by l.length - i
theorem fnd_mark {l : List UInt8} {sz i : Nat} (h : i < l.length) (hf : fitsAt l sz i = true) : fnd l sz i = (i + 4) :: fnd l sz (i + 4 + 2 * sz) := by
  rw [fnd, dif_pos h, if_pos hf]
theorem fnd_skip {l : List UInt8} {sz i : Nat} (h : i < l.length) (hf : fitsAt l sz i = false) : fnd l sz i = fnd l sz (i + 1) := by
  rw [fnd, dif_pos h, if_neg (by rw [hf]; decide)]
theorem fnd_out {l : List UInt8} {sz i : Nat} (h : l.length ≤ i) : fnd l sz i = [] := by
  rw [fnd, dif_neg (by omega)]
theorem fits_no {l : List UInt8} {sz i : Nat} (h : l.length < i + 4 + 2 * sz) : fitsAt l sz i = false := by
  unfold fitsAt; rw [decide_eq_false (p := i + 4 + 2 * sz ≤ l.length) (by omega)]; simp
theorem fnd_end {l : List UInt8} {sz : Nat} : ∀ n i, l.length - i ≤ n → l.length < i + 4 + 2 * sz → fnd l sz i = [] := by
  intro n
  induction n with
  | zero => intro i h _; exact fnd_out (by omega)
  | succ n ih =>
    intro i h1 h2
    by_cases h : i < l.length
    · rw [fnd_skip h (fits_no h2)]; exact ih _ (by omega) (by omega)
    · exact fnd_out (by omega)
theorem fnd_last {l : List UInt8} {sz i : Nat} (h : l.length < i + 4 + 2 * sz) : fnd l sz i = [] := fnd_end _ i (Nat.le_refl _) h
theorem fnd_in {l : List UInt8} {sz : Nat} : ∀ n i, l.length - i ≤ n → ∀ a ∈ fnd l sz i, i + 4 ≤ a ∧ a + 2 * sz ≤ l.length := by
  intro n
  induction n with
  | zero => intro i h a ha; rw [fnd_out (by omega)] at ha; cases ha
  | succ n ih =>
    intro i h1 a ha
    by_cases h : i < l.length
    · by_cases hf : fitsAt l sz i = true
      · rw [fnd_mark h hf, List.mem_cons] at ha
        have hf2 : i + 4 + 2 * sz ≤ l.length := by
          unfold fitsAt at hf
          simp only [Bool.and_eq_true, decide_eq_true_eq] at hf
          exact hf.2
        rcases ha with rfl | ha
        · omega
        · have := ih _ (by omega) a ha; omega
      · rw [fnd_skip h (by simpa using hf)] at ha
        have := ih _ (by omega) a ha; omega
    · rw [fnd_out (by omega)] at ha; cases ha
theorem fnd_len {l : List UInt8} {sz : Nat} : ∀ n i, l.length - i ≤ n → (fnd l sz i).length ≤ l.length - i := by
  intro n
  induction n with
  | zero => intro i h; rw [fnd_out (by omega)]; simp
  | succ n ih =>
    intro i h1
    by_cases h : i < l.length
    · by_cases hf : fitsAt l sz i = true
      · rw [fnd_mark h hf, List.length_cons]; have := ih (i + 4 + 2 * sz) (by omega); omega
      · rw [fnd_skip h (by simpa using hf)]; have := ih (i + 1) (by omega); omega
    · rw [fnd_out (by omega)]; simp
/-- blocks that follow one another are found one after the other -/
theorem fnd_blocks (l : List UInt8) (sz : Nat) (bs : List (List UInt8)) : (∀ b ∈ bs, b.length = 4 + 2 * sz ∧ b.take 4 = syncL) → ∀ i, i ≤ l.length → l.drop i = bs.flatten → fnd l sz i = (List.range bs.length).map fun k => i + 4 + k * (4 + 2 * sz) := by
  induction bs with
  | nil =>
    intro _ i hi h
    have hl := congrArg List.length h
    simp at hl
    rw [fnd_out (by omega)]; rfl
  | cons b bs ih =>
    intro hb i hi h
    obtain ⟨h1, h2⟩ := hb b List.mem_cons_self
    have hl := congrArg List.length h
    simp only [List.length_drop, List.flatten_cons, List.length_append] at hl
    have hf : fitsAt l sz i = true := by
      unfold fitsAt
      rw [h, List.flatten_cons, List.take_append_of_le_length (by omega), h2]
      simp; omega
    rw [fnd_mark (by omega) hf, ih (fun c hc => hb c (List.mem_cons_of_mem _ hc)) (i + 4 + 2 * sz) (by omega) ?_]
    · rw [List.length_cons, List.range_succ_eq_map, List.map_cons, List.map_map]
      refine congr (congrArg List.cons (by omega)) ?_
      apply List.map_congr_left
      intro k _
      show i + 4 + 2 * sz + 4 + k * (4 + 2 * sz) = i + 4 + (k + 1) * (4 + 2 * sz)
      rw [Nat.add_mul k 1, Nat.one_mul]; omega
    · rw [show i + 4 + 2 * sz = i + (4 + 2 * sz) by omega, ← List.drop_drop, h, List.flatten_cons, ← h1, List.drop_left]
/-! ### what is read at the places -/
def rdPiece (l : List UInt8) (sz a : Nat) : List UInt8 := (l.drop a).take (2 * sz)
def rdU (p : List UInt8) : List UInt8 := gather (scramble p)
def texts (l : List UInt8) (sz : Nat) (ps : List Nat) : List (List UInt8) := (ps.filter fun a => decodeOk (rdU (rdPiece l sz a))).map fun a => decodeOut (rdU (rdPiece l sz a))
def bads (l : List UInt8) (sz : Nat) (ps : List Nat) : Nat := (ps.filter fun a => !decodeOk (rdU (rdPiece l sz a))).length
theorem texts_good {l : List UInt8} {sz a : Nat} (ps : List Nat) (h : decodeOk (rdU (rdPiece l sz a)) = true) : texts l sz (ps ++ [a]) = texts l sz ps ++ [decodeOut (rdU (rdPiece l sz a))] ∧ bads l sz (ps ++ [a]) = bads l sz ps := by
  unfold texts bads
  rw [List.filter_append, List.filter_append, List.map_append]
  simp [h]
theorem texts_bad {l : List UInt8} {sz a : Nat} (ps : List Nat) (h : decodeOk (rdU (rdPiece l sz a)) = false) : texts l sz (ps ++ [a]) = texts l sz ps ∧ bads l sz (ps ++ [a]) = bads l sz ps + 1 := by
  unfold texts bads
  rw [List.filter_append, List.filter_append, List.map_append]
  simp [h]
theorem texts_len (l : List UInt8) (sz : Nat) (ps : List Nat) : (texts l sz ps).length ≤ ps.length ∧ bads l sz ps ≤ ps.length := by
  unfold texts bads
  rw [List.length_map]
  exact ⟨List.length_filter_le _ _, List.length_filter_le _ _⟩
theorem texts_all (l : List UInt8) (sz : Nat) (ps : List Nat) (g : Nat → List UInt8) : (∀ a ∈ ps, decodeOk (rdU (rdPiece l sz a)) = true ∧ decodeOut (rdU (rdPiece l sz a)) = g a) → texts l sz ps = ps.map g ∧ bads l sz ps = 0 := by
  intro h
  unfold texts bads
  have e1 : (ps.filter fun a => decodeOk (rdU (rdPiece l sz a))) = ps := List.filter_eq_self.2 fun a ha => (h a ha).1
  have e2 : (ps.filter fun a => !decodeOk (rdU (rdPiece l sz a))) = [] := List.filter_eq_nil_iff.2 fun a ha => by rw [(h a ha).1]; decide
  rw [e1, e2]
  exact ⟨List.map_congr_left fun a ha => (h a ha).2, rfl⟩
end Sat
