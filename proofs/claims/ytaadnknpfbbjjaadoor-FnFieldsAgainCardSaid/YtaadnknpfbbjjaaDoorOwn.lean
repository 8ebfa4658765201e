/- Words for rows of values that a call makes itself: what they hold, reading, storing, appending. No condition beyond the sizes that are written. -/
import Derived.Test.YtaadnknpfbbjjaaDoorBase
import Derived.Deep.RegionHeld3
namespace Go.Proofs.YtaadnknpfbbjjaaDoor
open Go.RowKit Sat

def Is (l : List Int) : List Value := l.map fun x => Value.int IntKind.i64 x
def Ns (l : List Nat) : List Value := l.map fun (a : Nat) => Value.int IntKind.i64 (a : Int)
def Ts (l : List (List UInt8)) : List Value := l.map fun t => Value.string (str t)
theorem Is_length (l : List Int) : (Is l).length = l.length := by simp [Is]
theorem Ns_length (l : List Nat) : (Ns l).length = l.length := by simp [Ns]
theorem Ts_length (l : List (List UInt8)) : (Ts l).length = l.length := by simp [Ts]
theorem Ns_snoc (l : List Nat) (a : Nat) : Ns (l ++ [a]) = Ns l ++ [.int .i64 (a : Int)] := by simp [Ns]
theorem Ts_snoc (l : List (List UInt8)) (t : List UInt8) : Ts (l ++ [t]) = Ts l ++ [.string (str t)] := by simp [Ts]
theorem Is_at (l : List Int) (j : Nat) (h : j < l.length) : (Is l)[j]? = some (.int .i64 (l.getD j 0)) := by simp [Is, h]
theorem Ns_at (l : List Nat) (j : Nat) (h : j < l.length) : (Ns l)[j]? = some (.int .i64 ((l.getD j 0 : Nat) : Int)) := by simp [Ns, h]
theorem Ts_at (l : List (List UInt8)) (j : Nat) (h : j < l.length) : (Ts l)[j]? = some (.string (str (l.getD j []))) := by simp [Ts, h]
theorem Ns_Is (l : List Nat) : Ns l = Is (l.map fun (a : Nat) => (a : Int)) := by simp [Ns, Is]

section
variable {w w' : World} {B e size : Nat} {v : Value} {n : Nat} {xs : List Value}
/-- a call that turns nothing that was there keeps what is owned -/
theorem own_below (h : w.ownsRow B e size v n xs) (hb : Below w.heap.size w w') : w'.ownsRow B e size v n xs := by
  have hg : w.grownBy w' none := ⟨hb.os, hb.tape, hb.output, hb.size, fun k hk _ => hb.block k hk⟩
  refine World.ownsRow.kept h hg ?_
  cases hv : v.ownBlock with
  | none => exact .inl rfl
  | some k => exact .inr (by simp)
/-- a row whose block lies below M is kept by what turns nothing below M -/
theorem own_belowM {M : Nat} (h : w.ownsRow B e size v n xs) (hM : ∀ k, v.ownBlock = some k → k < M) (hb : Below M w w') : w'.ownsRow B e size v n xs := by
  refine ⟨h.1, ?_⟩
  rcases h.2 with hn | ⟨g, cap, cur, rfl, hb0, hgg, rest⟩
  · exact .inl hn
  · refine .inr ⟨g, cap, cur, rfl, hb0, ?_, rest⟩
    rw [hb.block g (hM g rfl)]; exact hgg
theorem own_ltM (h : w.ownsRow B e size v n xs) : ∀ k, v.ownBlock = some k → k < w.heap.size := fun k hk => (h.lt k hk).2
theorem own_drewN (h : w.ownsRow B e size v n xs) (m : Nat) : (w.drewN m).ownsRow B e size v n xs := h
theorem own_form (h : w.ownsRow B e size v n xs) : ∃ A c, v = .slice A n c := by
  rcases h.2 with ⟨rfl, hn⟩ | ⟨g, cap, cur, rfl, _⟩
  · rw [hn]; exact ⟨_, _, rfl⟩
  · exact ⟨_, _, rfl⟩
/-- the cells of a slice that begins a block -/
theorem own_cells {A : Option Addr} {c : Nat} (h : w.ownsRow B e size (.slice A n c) n xs) (hn : 0 < n) : ∃ g, A = some ⟨g, 0, none⟩ ∧ (∀ j, j < n * size → w.cell? ⟨g, j, none⟩ = xs[j]?) ∧ (∀ j, w.frozen? ⟨g, j, none⟩ = false) ∧ B ≤ g ∧ g < w.heap.size := by
  rcases h.2 with ⟨h', hz⟩ | ⟨g, cap, cur, h', hb, hg, rest⟩
  · omega
  · have h0 := h
    injection h' with hA hn' hc
    subst hA
    exact ⟨g, rfl, fun j hj => h0.cellAt j hj, fun j => h0.frozenAt j, h0.lt g rfl⟩
end
theorem own_lit (w : World) (e size : Nat) : (w.alloc (.cells #[] e)).ownsRow w.heap.size e size (.slice (some ⟨w.heap.size, 0, none⟩) 0 0) 0 [] :=
  World.ownsRow_lit w #[] 0 (Nat.le_refl _) (by decide) (by simp)
/-- append(v, news...), the new elements just laid in a block of their own -/
theorem wpList_appV {ops : Array Oper} {rest : List Oper} {o : Oper} {a : Act} {Q : Exit → Act → World → Prop} {wr : World} {cs : Array Value} {c : Nat} (t e : TypeId) (z : Value) (size bytes : Nat)
    (ht : Tryd.prog.underlying t = some (.slice e)) (hinfo : (Tryd.prog.info? e).map (fun i => (i.zero, i.size, i.bytes)) = some (some z, size, bytes)) (hzs : z.cells.size = size) (hsz : 0 < size) (hby : bytes ≤ 1000)
    (hgd : o.guard = none) (s x : Operand) (ho : o.op = .call { callee := .builtin .append, args := #[s, x], argTypes := #[t, t] })
    (B : Nat) (v : Value) (n m : Nat) (xs news : List Value) (hs : a.eval s = v) (hown : wr.ownsRow B e size v n xs) (hx : a.eval x = .slice (some ⟨wr.heap.size, 0, none⟩) m c) (hcs : cs = news.toArray) (hlen : news.length = m * size) (h1 : ∀ u ∈ news, u.oneCell' = true)
    (hle : n + m ≤ 1000000000) (hB : B ≤ wr.heap.size)
    (h : ∀ v' w', w'.ownsRow B e size v' (n + m) (xs ++ news) → Below B wr w' → wpList Tryd.prog ops Q rest (a.put o.dst v') w') : wpList Tryd.prog ops Q (o :: rest) a (wr.alloc (.cells cs e)) := by
  obtain ⟨i0, hi, hz0, hz1, hz2⟩ := info_parts hinfo
  subst hcs
  refine wpList_append_own _ hgd s x t ho B e i0 z size bytes ht hi hz0 hz1 hz2 hzs hsz v n xs hs (hown.alloc _) ⟨wr.heap.size, 0, none⟩ m c news hx hlen ?_ h1 (by unfold maxLen; omega) ?_ (by simp; omega) ?_
  · intro j u hj
    have : (wr.alloc (.cells news.toArray e)).cell? ⟨wr.heap.size, j, none⟩ = news.toArray[j]? := World.cell?_alloc_mark wr _ _ (0, 0) j
    have e' : (⟨wr.heap.size, 0, none⟩ : Addr).add j = ⟨wr.heap.size, j, none⟩ := by unfold Addr.add; split <;> simp_all
    rw [e', this]
    simpa using hj
  · have := Nat.mul_le_mul hle hby; omega
  · intro v' w' hown' hg _
    refine h v' w' hown' ?_
    refine Below.grown ((Below.refl B wr).alloc hB _) hg (by simp; omega) ?_
    intro k hk
    exact (hown.lt k hk).1
/-- a row of the call's own is handed back -/
def MadeRow (t size n : Nat) (xs : List Value) (w : World) (e : Ending) (w' : World) : Prop := ∃ v, e = .returned v ∧ w'.ownsRow w.heap.size t size v n xs ∧ Below w.heap.size w w'

theorem bcell {W w1 : World} (hb : Below W.heap.size W w1) : (∀ b o, b < W.heap.size → w1.cell? ⟨b, o, none⟩ = W.cell? ⟨b, o, none⟩) ∧ (∀ b o, b < W.heap.size → w1.frozen? ⟨b, o, none⟩ = W.frozen? ⟨b, o, none⟩) :=
  ⟨fun b o h => hb.cell (p := ⟨b, o, none⟩) h, fun b o h => hb.frozen (p := ⟨b, o, none⟩) h⟩
theorem below_undrew {M : Nat} {w w1 : World} (h : Below M w.drew w1) : Below M w w1 := ⟨h.os, h.tape, h.output, h.size, h.block⟩
theorem below_undrewN {M n : Nat} {w w1 : World} (h : Below M (w.drewN n) w1) : Below M w w1 := ⟨h.os, h.tape, h.output, h.size, h.block⟩
/-! ### marks -/
/-- the decimal digits of n -/
def digL : Nat → Nat → List UInt8
  | 0, _ => []
  | f + 1, n => if n = 0 then [] else digL f (n / 10) ++ [UInt8.ofNat (48 + n % 10)]
def markL (k : Nat) : List UInt8 := if k = 0 then [109, 48] else 109 :: digL 64 k
/-- the cell that a mark k is: a number or a text -/
def markV (txt : Nat → Bool) (k : Nat) (j : Nat) : Value := if txt j then .string (str (markL (k + j))) else .int .i64 ((k + j : Nat) : Int)
def markRow (txt : Nat → Bool) (k n : Nat) : List Value := (List.range n).map (markV txt k)
theorem markRow_at (txt : Nat → Bool) (k n j : Nat) (h : j < n) : (markRow txt k n)[j]? = some (markV txt k j) := by simp [markRow, h]
theorem markRow_length (txt : Nat → Bool) (k n : Nat) : (markRow txt k n).length = n := by simp [markRow]
def MarkedTo (txt : Nat → Bool) (k j : Nat) (xs : List Value) : Prop := ∀ t, t < j → xs[t]? = some (markV txt k t)
theorem MarkedTo.zero (txt : Nat → Bool) (k : Nat) (xs : List Value) : MarkedTo txt k 0 xs := fun _ h => absurd h (by omega)
theorem MarkedTo.set {txt : Nat → Bool} {k j : Nat} {xs : List Value} (h : MarkedTo txt k j xs) (hj : j < xs.length) : MarkedTo txt k (j + 1) (xs.set j (markV txt k j)) := by
  intro t ht
  rw [List.getElem?_set]
  by_cases e : j = t
  · subst e; rw [if_pos rfl, if_pos hj]
  · rw [if_neg e]; exact h t (by omega)
theorem MarkedTo.full {txt : Nat → Bool} {k n : Nat} {xs : List Value} (h : MarkedTo txt k n xs) (hn : xs.length = n) : xs = markRow txt k n := by
  apply List.ext_getElem?
  intro t
  by_cases ht : t < n
  · rw [h t ht, markRow_at _ _ _ _ ht]
  · rw [List.getElem?_eq_none (by omega), List.getElem?_eq_none (by rw [markRow_length]; omega)]
theorem digL_length (f n : Nat) : (digL f n).length ≤ f := by
  induction f generalizing n with
  | zero => simp [digL]
  | succ f ih =>
    rw [digL]
    split
    · simp
    · have := ih (n / 10); simp; omega
theorem digL_more (f n : Nat) (h : n < 10 ^ f) : ∀ g, f ≤ g → digL g n = digL f n := by
  induction f generalizing n with
  | zero =>
    intro g _
    have : n = 0 := by simpa using h
    subst this
    cases g <;> simp [digL]
  | succ f ih =>
    intro g hg
    obtain ⟨g, rfl⟩ : ∃ g', g = g' + 1 := ⟨g - 1, by omega⟩
    rw [digL, digL]
    split
    · rfl
    · rw [ih (n / 10) (by rw [Nat.pow_succ] at h; omega) g (by omega)]
theorem app_strs (a b : List UInt8) : str a ++ str b = str (a ++ b) := by
  unfold str
  exact ByteArray.mk_append_mk _ _
end Go.Proofs.YtaadnknpfbbjjaaDoor
