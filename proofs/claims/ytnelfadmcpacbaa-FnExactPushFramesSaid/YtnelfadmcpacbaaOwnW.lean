/- Appending to a row of the call's own, with the word which blocks stay as they were. No condition beyond the sizes that are written. -/
import Derived.Test.YtnelfadmcpacbaaOwn
import Derived.Maps.AppendAt
namespace Go.Proofs.Ytnelfadmcpacbaa
open Go.RowKit Sat

theorem own_mono {w : World} {B B' e size : Nat} {v : Value} {n : Nat} {xs : List Value} (h : w.ownsRow B e size v n xs) (hb : B' ≤ B) : w.ownsRow B' e size v n xs := by
  refine ⟨h.1, ?_⟩
  rcases h.2 with h2 | ⟨g, cap, cur, h1, h2, h3⟩
  · exact .inl h2
  · exact .inr ⟨g, cap, cur, h1, by omega, h3⟩
/-- two rows lie in different blocks -/
def Apart (u v : Value) : Prop := ∀ k, u.ownBlock = some k → v.ownBlock ≠ some k
/-- every block but the row's own is as it was -/
def SameBut (v : Value) (w w' : World) : Prop := ∀ k, k < w.heap.size → v.ownBlock ≠ some k → w'.heap[k]? = w.heap[k]?
/-- the new row lies where the old one lay, or in a new block -/
def LiesAt (v v' : Value) (n : Nat) : Prop := v'.ownBlock = v.ownBlock ∨ ∃ g, v'.ownBlock = some g ∧ n < g
theorem own_apart {w w' : World} {B e size : Nat} {u v : Value} {n : Nat} {xs : List Value} (h : w.ownsRow B e size u n xs) (hk : SameBut v w w') (ha : Apart u v) : w'.ownsRow B e size u n xs := by
  refine ⟨h.1, ?_⟩
  have hl := h.lt
  rcases h.2 with hn | ⟨g, cap, cur, rfl, hb0, hgg, rest⟩
  · exact .inl hn
  · refine .inr ⟨g, cap, cur, rfl, hb0, ?_, rest⟩
    rw [hk g (hl g rfl).2 (ha g rfl)]; exact hgg
theorem apart_lies {w : World} {B e size : Nat} {u v v' : Value} {n : Nat} {xs : List Value} (h : w.ownsRow B e size u n xs) (ha : Apart u v) (hl : LiesAt v v' w.heap.size) : Apart u v' := by
  intro k hk
  rcases hl with e | ⟨g, e, hg⟩
  · rw [e]; exact ha k hk
  · rw [e]; intro e'; injection e' with e'; have := (h.lt k hk).2; omega
theorem apart_lt {w : World} {B e size : Nat} {u v : Value} {n : Nat} {xs : List Value} (h : w.ownsRow B e size u n xs) (hv : ∀ k, v.ownBlock = some k → k < B) : Apart u v := by
  intro k hk e
  have := (h.lt k hk).1
  have := hv k e
  omega
theorem apart_gt {w : World} {B e size : Nat} {u v : Value} {n : Nat} {xs : List Value} (h : w.ownsRow B e size u n xs) (hv : ∀ k, v.ownBlock = some k → w.heap.size ≤ k) : Apart u v := by
  intro k hk e
  have := (h.lt k hk).2
  have := hv k e
  omega
theorem wpList_appW {ops : Array Oper} {rest : List Oper} {o : Oper} {a : Act} {Q : Exit → Act → World → Prop} {wr : World} {cs : Array Value} {c : Nat} (t e : TypeId) (z : Value) (size bytes : Nat)
    (ht : Try.prog.underlying t = some (.slice e)) (hinfo : (Try.prog.info? e).map (fun i => (i.zero, i.size, i.bytes)) = some (some z, size, bytes)) (hzs : z.cells.size = size) (hsz : 0 < size) (hby : bytes ≤ 1000)
    (hgd : o.guard = none) (s x : Operand) (ho : o.op = .call { callee := .builtin .append, args := #[s, x], argTypes := #[t, t] })
    (B : Nat) (v : Value) (n m : Nat) (xs news : List Value) (hs : a.eval s = v) (hown : wr.ownsRow B e size v n xs) (hx : a.eval x = .slice (some ⟨wr.heap.size, 0, none⟩) m c) (hcs : cs = news.toArray) (hlen : news.length = m * size) (h1 : ∀ u ∈ news, u.oneCell' = true)
    (hle : n + m ≤ 1000000000) (hB : B ≤ wr.heap.size)
    (h : ∀ v' w', w'.ownsRow B e size v' (n + m) (xs ++ news) → Below B wr w' → SameBut v wr w' → LiesAt v v' wr.heap.size → wpList Try.prog ops Q rest (a.put o.dst v') w') : wpList Try.prog ops Q (o :: rest) a (wr.alloc (.cells cs e)) := by
  obtain ⟨i0, hi, hz0, hz1, hz2⟩ := info_parts hinfo
  subst hcs
  refine wpList_append_own_at _ hgd s x t ho B e i0 z size bytes ht hi hz0 hz1 hz2 hzs hsz v n xs hs (hown.alloc _) ⟨wr.heap.size, 0, none⟩ m c news hx hlen ?_ h1 (by unfold maxLen; omega) ?_ (by simp; omega) ?_
  · intro j u hj
    have : (wr.alloc (.cells news.toArray e)).cell? ⟨wr.heap.size, j, none⟩ = news.toArray[j]? := World.cell?_alloc_mark wr _ _ (0, 0) j
    have e' : (⟨wr.heap.size, 0, none⟩ : Addr).add j = ⟨wr.heap.size, j, none⟩ := by unfold Addr.add; split <;> simp_all
    rw [e', this]
    simpa using hj
  · have := Nat.mul_le_mul hle hby; omega
  · intro v' w' hown' hg _ hat
    refine h v' w' hown' ?_ ?_ ?_
    · refine Below.grown ((Below.refl B wr).alloc hB _) hg (by simp; omega) ?_
      intro k hk
      exact (hown.lt k hk).1
    · intro k hk hne
      have h2 := hg.block k (by simp; omega) (fun e => hne e.symm)
      have h3 : (wr.alloc (.cells news.toArray e)).heap[k]? = wr.heap[k]? := by
        have := ((Below.refl wr.heap.size wr).alloc (Nat.le_refl _) (.cells news.toArray e)).block k hk
        exact this
      rw [h2, h3]
    · rcases hat with e | e
      · exact .inl e
      · exact .inr ⟨_, e, by simp⟩
end Go.Proofs.Ytnelfadmcpacbaa
