/- Words for rows of bytes that a call makes itself: what they hold, appending, converting to a string. No condition beyond the sizes that are written. -/
import Derived.Test.YtnelfadmcpacbaaWordA
import Derived.Test.YtnelfadmcpacbaaPlWord
import Derived.Laws.IdiomStrings
namespace Go.Proofs.Ytnelfadmcpacbaa
open Go.RowKit Sat

def Bys (l : List UInt8) : List Value := l.map fun b => Value.int .u8 (b.toNat : Int)
theorem Bys_length (l : List UInt8) : (Bys l).length = l.length := by simp [Bys]
theorem Bys_append (a b : List UInt8) : Bys (a ++ b) = Bys a ++ Bys b := by simp [Bys]
theorem Bys_at (l : List UInt8) (j : Nat) (h : j < l.length) : (Bys l)[j]? = some (.int .u8 (l[j].toNat : Int)) := by simp [Bys, h]
theorem Bys_set (l : List UInt8) (j : Nat) (b : UInt8) : (Bys l).set j (.int .u8 (b.toNat : Int)) = Bys (l.set j b) := by simp [Bys, List.map_set]
theorem Bys_one (l : List UInt8) : ∀ u ∈ Bys l, u.oneCell' = true := by
  intro u hu
  simp only [Bys, List.mem_map] at hu
  obtain ⟨b, _, rfl⟩ := hu
  rfl
theorem Bys_zero (n : Nat) : List.replicate n (Value.int .u8 0) = Bys (List.replicate n 0) := by simp [Bys]

/-- the slice value v is made of the bytes l, in blocks from B on -/
def BOwn (w : World) (B : Nat) (v : Value) (l : List UInt8) : Prop := w.ownsRow B 5 1 v l.length (Bys l)
theorem BOwn.out {w : World} {B : Nat} {v : Value} {l : List UInt8} (h : BOwn w B v l) : w.ownsRow B 5 1 v l.length (Bys l) := h
theorem BOwn.drewN {w : World} {B : Nat} {v : Value} {l : List UInt8} (h : BOwn w B v l) (n : Nat) : BOwn (w.drewN n) B v l := h
theorem BOwn.alloc {w : World} {B : Nat} {v : Value} {l : List UInt8} (h : BOwn w B v l) (o : Obj) : BOwn (w.alloc o) B v l := World.ownsRow.alloc h o
/-- a call that turns nothing below its beginning keeps what is owned -/
theorem BOwn.below {w w' : World} {B : Nat} {v : Value} {l : List UInt8} (h : BOwn w B v l) (hb : Below w.heap.size w w') : BOwn w' B v l := by
  have hg : w.grownBy w' none := ⟨hb.os, hb.tape, hb.output, hb.size, fun k hk _ => hb.block k hk⟩
  refine World.ownsRow.kept h hg ?_
  cases hv : v.ownBlock with
  | none => exact .inl rfl
  | some k => exact .inr (by simp)
theorem BOwn.str {w : World} {B : Nat} {v : Value} {l : List UInt8} (h : BOwn w B v l) : (convert 70 9 v).run Try.prog w = .ok (.string (str l)) w := by
  rcases h.2 with ⟨rfl, hn⟩ | ⟨g, cap, cur, rfl, _⟩
  · have : l = [] := List.eq_nil_of_length_eq_zero hn
    subst this
    have := run_convert_bytes_nil (P := Try.prog) w 70 5 Try.underlying70 Try.underlying5 0 0
    exact this 9 Try.underlying9
  · exact run_convert_bytes_back (P := Try.prog) w 70 9 5 ⟨g, 0, none⟩ cap l Try.underlying70 Try.underlying5 Try.underlying9
      (fun j hj => h.out.cells (g := g) rfl j _ (Bys_at l j hj))
theorem info8 : (Try.prog.info? 5).map (fun i => (i.zero, i.size, i.bytes)) = some (some (.int .u8 0), 1, 1) := by kernel_rfl

/-- append(v, news...), the new bytes just laid in a block of their own -/
theorem wpList_app {ops : Array Oper} {rest : List Oper} {o : Oper} {a : Act} {Q : Exit → Act → World → Prop} {wr : World} {cs : Array Value} {c : Nat} (hgd : o.guard = none) (s x : Operand)
    (ho : o.op = .call { callee := .builtin .append, args := #[s, x], argTypes := #[70, 70] })
    (B : Nat) (v : Value) (l news : List UInt8) (hs : a.eval s = v) (hown : BOwn wr B v l) (hx : a.eval x = .slice (some ⟨wr.heap.size, 0, none⟩) news.length c) (hcs : cs = (Bys news).toArray)
    (hsz : l.length + news.length ≤ 1099511627776) (hB : B ≤ wr.heap.size)
    (h : ∀ v' w', BOwn w' B v' (l ++ news) → Below B wr w' → wpList Try.prog ops Q rest (a.put o.dst v') w') : wpList Try.prog ops Q (o :: rest) a (wr.alloc (.cells cs 5)) := by
  obtain ⟨i0, hi, hz0, hz1, hz2⟩ := info_parts info8
  subst hcs
  refine wpList_append_own _ hgd s x 70 ho B 5 i0 (.int .u8 0) 1 1 Try.underlying70 hi hz0 hz1 hz2 rfl (by decide) v l.length (Bys l) hs (hown.out.alloc _) ⟨wr.heap.size, 0, none⟩ news.length c (Bys news) hx (by simp [Bys_length]) ?_ (Bys_one news) (by unfold maxLen; omega) (by omega) (by simp; omega) ?_
  · intro j u hj
    have hlt : j < (Bys news).length := (List.getElem?_eq_some_iff.1 hj).1
    have : (wr.alloc (.cells (Bys news).toArray 5)).cell? ⟨wr.heap.size, j, none⟩ = (Bys news).toArray[j]? := World.cell?_alloc_mark wr _ _ (0, 0) j
    have e : (⟨wr.heap.size, 0, none⟩ : Addr).add j = ⟨wr.heap.size, j, none⟩ := by unfold Addr.add; split <;> simp_all
    rw [e, this]
    simpa using hj
  · intro v' w' hown' hg _
    refine h v' w' ?_ ?_
    · unfold BOwn; rw [Bys_append, List.length_append]; exact hown'
    · refine Below.grown ((Below.refl B wr).alloc hB _) hg (by simp; omega) ?_
      intro k hk
      exact (hown.out.lt k hk).1
/-- make([]byte, n): n bytes 0 -/
theorem wpList_mk {ops : Array Oper} {rest : List Oper} {o : Oper} {a : Act} {Q : Exit → Act → World → Prop} {w : World} (hg : o.guard = none) (l c : Operand) (hop : o.op = Op.makeSlice 70 l c)
    (L C : Int) (n : Nat) (hl : a.eval l = .int .i64 L) (hc : a.eval c = .int .i64 C) (hL : L = (n : Int)) (hC : C = (n : Int)) (hn : n ≤ 1099511627776)
    (hK : ∀ w', BOwn w' w.heap.size (.slice (some ⟨w.heap.size, 0, none⟩) n n) (List.replicate n 0) → Below w.heap.size w w' → wpList Try.prog ops Q rest (a.put o.dst (.slice (some ⟨w.heap.size, 0, none⟩) n n)) w') :
    wpList Try.prog ops Q (o :: rest) a w := by
  obtain ⟨i0, hi, hz0, hz1, hz2⟩ := info_parts info8
  refine wpList_make_full w hg l c 70 hop w.heap.size 5 i0 (.int .u8 0) 1 Try.underlying70 hi hz0 hz1 .i64 .i64 L C n hl hc hL hC (by rw [hz2]; omega) (by unfold maxLen; omega) (Nat.le_refl _) ?_
  intro w' hown hgr
  refine hK w' ?_ (Below.grown (Below.refl _ w) hgr (Nat.le_refl _) (by simp))
  unfold BOwn
  rw [List.length_replicate, ← Bys_zero]
  have e : (madeCells (Value.int .u8 0).cells (n * 1)).toList = List.replicate n (Value.int .u8 0) := by
    rw [Nat.mul_one]; exact toList_madeCells_one _ _
  rw [← e]; exact hown
/-- make([]byte, 0, n): no byte yet -/
theorem wpList_mk0 {ops : Array Oper} {rest : List Oper} {o : Oper} {a : Act} {Q : Exit → Act → World → Prop} {w : World} (hg : o.guard = none) (l c : Operand) (hop : o.op = Op.makeSlice 70 l c)
    (C : Int) (n : Nat) (hl : a.eval l = .int .i64 0) (hc : a.eval c = .int .i64 C) (hC : C = (n : Int)) (hn : n ≤ 1099511627776)
    (hK : ∀ w', BOwn w' w.heap.size (.slice (some ⟨w.heap.size, 0, none⟩) 0 n) [] → Below w.heap.size w w' → wpList Try.prog ops Q rest (a.put o.dst (.slice (some ⟨w.heap.size, 0, none⟩) 0 n)) w') :
    wpList Try.prog ops Q (o :: rest) a w := by
  obtain ⟨i0, hi, hz0, hz1, hz2⟩ := info_parts info8
  refine wpList_make_own w hg l c 70 hop w.heap.size 5 i0 (.int .u8 0) 1 Try.underlying70 hi hz0 hz1 .i64 .i64 C n hl hc hC (by rw [hz2]; omega) (by unfold maxLen; omega) (Nat.le_refl _) ?_
  intro w' hown hgr
  exact hK w' hown (Below.grown (Below.refl _ w) hgr (Nat.le_refl _) (by simp))
/-- []byte of no byte, in a block of its own -/
theorem BOwn.lit (w : World) : BOwn (w.alloc (.cells #[] 5)) w.heap.size (.slice (some ⟨w.heap.size, 0, none⟩) 0 0) [] :=
  World.ownsRow_lit w #[] 0 (Nat.le_refl _) (by decide) rfl
/-- one byte is stored -/
theorem BOwn.stored {w : World} {B g n cap : Nat} {l : List UInt8} (h : BOwn w B (.slice (some ⟨g, 0, none⟩) n cap) l) (hl : l.length = n) (j : Nat) (b : UInt8) :
    BOwn (w.setCell ⟨g, j, none⟩ (.int .u8 (b.toNat : Int))) B (.slice (some ⟨g, 0, none⟩) n cap) (l.set j b) := by
  subst hl
  have h1 := (h.out.stored j (.int .u8 (b.toNat : Int))).1
  rw [Bys_set] at h1
  unfold BOwn
  rw [List.length_set]
  exact h1
theorem BOwn.base {w : World} {B g n cap : Nat} {l : List UInt8} (h : BOwn w B (.slice (some ⟨g, 0, none⟩) n cap) l) : B ≤ g := (h.out.lt g rfl).1
theorem BOwn.cell {w : World} {B g n cap : Nat} {l : List UInt8} (h : BOwn w B (.slice (some ⟨g, 0, none⟩) n cap) l) (hl : l.length = n) (j : Nat) (hj : j < n) : w.cell? ⟨g, j, none⟩ = some (.int .u8 ((l.getD j 0).toNat : Int)) := by
  subst hl
  rw [h.out.cellAt j (by simpa using hj), Bys_at l j hj, List.getD_eq_getElem?_getD, List.getElem?_eq_getElem hj]
  rfl
theorem BOwn.frozen {w : World} {B g n cap : Nat} {l : List UInt8} (h : BOwn w B (.slice (some ⟨g, 0, none⟩) n cap) l) (hl : l.length = n) (j : Nat) : w.frozen? ⟨g, j, none⟩ = false := by
  subst hl
  exact h.out.frozenAt j
/-- the slice of length len at a holds the bytes l, below block B -/
def IsBytes (w : World) (B : Nat) (a : Option Addr) (len : Nat) (l : List UInt8) : Prop :=
  l.length = len ∧ len ≤ 9223372036854775807 ∧ (0 < len → ∃ b off, a = some ⟨b, off, none⟩ ∧ b < B ∧ ∀ j, j < len → w.cell? ⟨b, off + j, none⟩ = some (.int .u8 ((l.getD j 0).toNat : Int)))
theorem IsBytes.below {w w' : World} {B : Nat} {a : Option Addr} {len : Nat} {l : List UInt8} (h : IsBytes w B a len l) (hb : Below B w w') : IsBytes w' B a len l :=
  ⟨h.1, h.2.1, fun hp => by
    obtain ⟨b, off, e, hlt, hc⟩ := h.2.2 hp
    exact ⟨b, off, e, hlt, fun j hj => (hb.cell hlt).trans (hc j hj)⟩⟩
theorem below_drewN {B : Nat} {a w : World} (h : Below B a w) (n : Nat) : Below B a (w.drewN n) := ⟨h.os, h.tape, h.output, h.size, h.block⟩
theorem below_self (w : World) (n : Nat) : Below w.heap.size w (w.drewN n) := below_drewN (Below.refl _ _) n
theorem below_trans {w w1 w2 : World} (h1 : Below w.heap.size w w1) (h2 : Below w1.heap.size w1 w2) : Below w.heap.size w w2 := h1.trans (h2.mono h1.size)
theorem ret_str {a b : ByteArray} (h : a = b) : Ending.returned (.string a) = .returned (.string b) := by rw [h]
/-- bytes of an int -/
theorem byte_wrap (n : Nat) : IntKind.u8.wrap (n : Int) = ((UInt8.ofNat n).toNat : Int) := by
  rw [IntKind.wrap_u8, UInt8.toNat_ofNat']; rfl
end Go.Proofs.Ytnelfadmcpacbaa
