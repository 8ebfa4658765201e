/- Plain facts on the fields of a line: the scan byte by byte, and that the fields joined by spaces have the same fields. No program in sight. -/
import Derived.Test.YtaadnknpfbbjjaaDoorPlWord
namespace Sat

/-- the scan: the fields that are closed, and the run that is open -/
def fStep (st : List (List UInt8) × List UInt8) (c : UInt8) : List (List UInt8) × List UInt8 :=
  if c = 32 then (if st.2 = [] then st.1 else st.1 ++ [st.2], []) else (st.1, st.2 ++ [c])
def fScan (l : List UInt8) : List (List UInt8) × List UInt8 := l.foldl fStep ([], [])
def fEnd (st : List (List UInt8) × List UInt8) : List (List UInt8) := if st.2 = [] then st.1 else st.1 ++ [st.2]
def fields (l : List UInt8) : List (List UInt8) := fEnd (fScan l)
def inLine (c : UInt8) : Bool := decide (32 ≤ c.toNat) && decide (c.toNat ≤ 126)
def lineOk (l : List UInt8) : Bool := decide (l.length ≤ 600) && l.all inLine && decide ((fields l).length ≤ 24)
def fieldsOf (l : List UInt8) : List (List UInt8) := if lineOk l then fields l else []

theorem fScan_snoc (l : List UInt8) (c : UInt8) : fScan (l ++ [c]) = fStep (fScan l) c := by simp [fScan]
theorem fScan_suffix (l : List UInt8) : ∃ p, l = p ++ (fScan l).2 := by
  rw [← List.reverse_reverse l]
  generalize l.reverse = r
  induction r with
  | nil => exact ⟨[], rfl⟩
  | cons c r ih =>
    obtain ⟨p, hp⟩ := ih
    rw [List.reverse_cons, fScan_snoc]
    unfold fStep
    split
    · exact ⟨r.reverse ++ [c], by simp⟩
    · refine ⟨p, ?_⟩
      simp only
      rw [← List.append_assoc, ← hp]
theorem fScan_cur (l : List UInt8) : (fScan l).2.length ≤ l.length ∧ l.drop (l.length - (fScan l).2.length) = (fScan l).2 := by
  obtain ⟨p, hp⟩ := fScan_suffix l
  generalize (fScan l).2 = c at hp
  subst hp
  simp
/-- what each field is -/
def GoodField (f : List UInt8) : Prop := f ≠ [] ∧ ∀ c ∈ f, c ≠ 32
theorem fScan_good (l : List UInt8) : (∀ f ∈ (fScan l).1, GoodField f) ∧ ∀ c ∈ (fScan l).2, c ≠ 32 := by
  rw [← List.reverse_reverse l]
  generalize l.reverse = r
  induction r with
  | nil => simp [fScan]
  | cons c r ih =>
    rw [List.reverse_cons, fScan_snoc]
    unfold fStep
    by_cases hc : c = 32
    · rw [if_pos hc]
      refine ⟨?_, by simp⟩
      intro f hf
      by_cases h2 : (fScan r.reverse).2 = []
      · simp only [h2, if_true] at hf; exact ih.1 f hf
      · simp only [h2, if_false, List.mem_append, List.mem_singleton] at hf
        rcases hf with hf | rfl
        · exact ih.1 f hf
        · exact ⟨h2, ih.2⟩
    · rw [if_neg hc]
      refine ⟨ih.1, ?_⟩
      intro x hx
      simp only [List.mem_append, List.mem_singleton] at hx
      rcases hx with hx | rfl
      · exact ih.2 x hx
      · exact hc
theorem fields_good (l : List UInt8) : ∀ f ∈ fields l, GoodField f := by
  have h := fScan_good l
  unfold fields fEnd
  intro f hf
  by_cases h2 : (fScan l).2 = []
  · rw [if_pos h2] at hf; exact h.1 f hf
  · rw [if_neg h2] at hf
    simp only [List.mem_append, List.mem_singleton] at hf
    rcases hf with hf | rfl
    · exact h.1 f hf
    · exact ⟨h2, h.2⟩
/-- every byte of a field is a byte of the line -/
theorem fScan_mem (l : List UInt8) : (∀ f ∈ (fScan l).1, ∀ c ∈ f, c ∈ l) ∧ ∀ c ∈ (fScan l).2, c ∈ l := by
  rw [← List.reverse_reverse l]
  generalize l.reverse = r
  induction r with
  | nil => simp [fScan]
  | cons d r ih =>
    rw [List.reverse_cons, fScan_snoc]
    unfold fStep
    by_cases hc : d = 32
    · rw [if_pos hc]
      refine ⟨?_, by simp⟩
      intro f hf c hcf
      rw [List.mem_append]
      left
      by_cases h2 : (fScan r.reverse).2 = []
      · simp only [h2, if_true] at hf; exact ih.1 f hf c hcf
      · simp only [h2, if_false, List.mem_append, List.mem_singleton] at hf
        rcases hf with hf | rfl
        · exact ih.1 f hf c hcf
        · exact ih.2 c hcf
    · rw [if_neg hc]
      refine ⟨fun f hf c hcf => List.mem_append_left _ (ih.1 f hf c hcf), ?_⟩
      intro x hx
      simp only [List.mem_append, List.mem_singleton] at hx ⊢
      rcases hx with hx | hx
      · exact .inl (ih.2 x hx)
      · exact .inr hx
theorem fields_mem (l : List UInt8) : ∀ f ∈ fields l, ∀ c ∈ f, c ∈ l := by
  have h := fScan_mem l
  unfold fields fEnd
  intro f hf
  by_cases h2 : (fScan l).2 = []
  · rw [if_pos h2] at hf; exact h.1 f hf
  · rw [if_neg h2] at hf
    simp only [List.mem_append, List.mem_singleton] at hf
    rcases hf with hf | rfl
    · exact h.1 f hf
    · exact h.2
/-! ### joined again -/
def joinSp (fs : List (List UInt8)) : List UInt8 := fs.flatMap fun f => f ++ [32]
theorem run_plain (f : List UInt8) (h : ∀ c ∈ f, c ≠ 32) : ∀ st : List (List UInt8) × List UInt8, f.foldl fStep st = (st.1, st.2 ++ f) := by
  induction f with
  | nil => intro st; simp
  | cons c f ih =>
    intro st
    rw [List.foldl_cons, ih (fun d hd => h d (List.mem_cons_of_mem _ hd))]
    unfold fStep
    rw [if_neg (h c List.mem_cons_self)]
    simp
theorem scan_joined (fs : List (List UInt8)) (h : ∀ f ∈ fs, GoodField f) : ∀ done, (joinSp fs).foldl fStep (done, []) = (done ++ fs, []) := by
  induction fs with
  | nil => intro done; simp [joinSp]
  | cons f fs ih =>
    intro done
    have hf := h f List.mem_cons_self
    have e : joinSp (f :: fs) = (f ++ [32]) ++ joinSp fs := by simp [joinSp]
    rw [e, List.foldl_append, List.foldl_append, run_plain f hf.2]
    have : [(32 : UInt8)].foldl fStep ((done, ([] : List UInt8)).1, (done, ([] : List UInt8)).2 ++ f) = (done ++ [f], []) := by
      simp [fStep, hf.1]
    rw [this, ih (fun g hg => h g (List.mem_cons_of_mem _ hg))]
    simp
theorem fields_joined (l : List UInt8) : fields (joinSp (fields l)) = fields l := by
  have := scan_joined (fields l) (fields_good l) []
  unfold fields at *
  unfold fScan at *
  rw [this]
  simp [fEnd]
theorem lineOk_joined (l : List UInt8) (h : lineOk l = true) (hs : (joinSp (fields l)).length ≤ 600) : lineOk (joinSp (fields l)) = true := by
  unfold lineOk at *
  simp only [Bool.and_eq_true, decide_eq_true_eq] at *
  refine ⟨⟨hs, ?_⟩, by rw [fields_joined]; exact h.2⟩
  rw [List.all_eq_true]
  intro c hc
  unfold joinSp at hc
  rw [List.mem_flatMap] at hc
  obtain ⟨f, hf, hc⟩ := hc
  simp only [List.mem_append, List.mem_singleton] at hc
  rcases hc with hc | rfl
  · exact List.all_eq_true.1 h.1.2 c (fields_mem l f hf c hc)
  · decide
end Sat
