/- Plain facts on a stream of blocks that follow one another: where they are found, and what is read. No program in sight. -/
import Derived.Test.YtimkjhjdddllcaaLinkF
import Derived.Test.YtimkjhjdddllcaaBlkA
namespace Go.Proofs.Ytimkjhjdddllcaa
open Go.RowKit Sat

def pieces (t : List UInt8) (n m : Nat) : List (List UInt8) := (List.range m).map fun i => (t.drop (i * n)).take n
def streamL (t : List UInt8) (n m : Nat) : List UInt8 := ((pieces t n m).map makeL).flatten
theorem pieces_len (t : List UInt8) (n m : Nat) : (pieces t n m).length = m := by simp [pieces]
theorem pieces_succ (t : List UInt8) (n m : Nat) : pieces t n (m + 1) = pieces t n m ++ [(t.drop (m * n)).take n] := by simp [pieces, List.range_succ]
theorem streamL_succ (t : List UInt8) (n m : Nat) : streamL t n (m + 1) = streamL t n m ++ makeL ((t.drop (m * n)).take n) := by
  unfold streamL; rw [pieces_succ, List.map_append, List.flatten_append]; simp
theorem pieces_at {t : List UInt8} {n m : Nat} (hm : m * n ≤ t.length) : ∀ p ∈ pieces t n m, p.length = n := by
  intro p hp
  simp only [pieces, List.mem_map, List.mem_range] at hp
  obtain ⟨i, hi, rfl⟩ := hp
  have h1 : (i + 1) * n ≤ m * n := Nat.mul_le_mul_right n (by omega)
  rw [Nat.add_mul, Nat.one_mul] at h1
  rw [List.length_take, List.length_drop]; omega
theorem block_of {p : List UInt8} {n : Nat} (h1 : 1 ≤ n) (h2 : n ≤ 200) (hp : p.length = n) : (makeL p).length = 4 + 2 * n ∧ (makeL p).take 4 = syncL ∧ (makeL p).drop 4 = scramble (spread (encodeBlock p)) := by
  refine ⟨by rw [makeL_length (by omega) (by omega), hp], ?_, ?_⟩
  · rw [makeL_in (by omega) (by omega)]; rfl
  · rw [makeL_in (by omega) (by omega)]; rfl
theorem flat_len {c : Nat} (bs : List (List UInt8)) : (∀ b ∈ bs, b.length = c) → bs.flatten.length = bs.length * c := by
  induction bs with
  | nil => intro _; simp
  | cons b bs ih =>
    intro h
    rw [List.flatten_cons, List.length_append, h b List.mem_cons_self, ih (fun x hx => h x (List.mem_cons_of_mem _ hx)), List.length_cons, Nat.add_mul, Nat.one_mul]; omega
theorem flat_drop {c : Nat} (k : Nat) : ∀ bs : List (List UInt8), (∀ b ∈ bs, b.length = c) → k ≤ bs.length → bs.flatten.drop (k * c) = (bs.drop k).flatten := by
  induction k with
  | zero => intro bs _ _; simp
  | succ k ih =>
    intro bs h hk
    cases bs with
    | nil => simp at hk
    | cons b bs =>
      rw [List.flatten_cons, List.drop_succ_cons, Nat.add_mul, Nat.one_mul, Nat.add_comm, ← List.drop_drop]
      have hb := h b List.mem_cons_self
      rw [← hb, List.drop_left, hb]
      exact ih bs (fun x hx => h x (List.mem_cons_of_mem _ hx)) (by simpa using hk)
theorem blocks_all {t : List UInt8} {n m : Nat} (h1 : 1 ≤ n) (h2 : n ≤ 200) (hm : m * n ≤ t.length) : ∀ b ∈ (pieces t n m).map makeL, b.length = 4 + 2 * n ∧ b.take 4 = syncL := by
  intro b hb
  rw [List.mem_map] at hb
  obtain ⟨p, hp, rfl⟩ := hb
  obtain ⟨a, b, _⟩ := block_of h1 h2 (pieces_at hm p hp)
  exact ⟨a, b⟩
theorem streamL_length {t : List UInt8} {n m : Nat} (h1 : 1 ≤ n) (h2 : n ≤ 200) (hm : m * n ≤ t.length) : (streamL t n m).length = m * (4 + 2 * n) := by
  unfold streamL
  rw [flat_len (c := 4 + 2 * n) _ (fun b hb => (blocks_all h1 h2 hm b hb).1), List.length_map, pieces_len]
def placeAt (n k : Nat) : Nat := 4 + k * (4 + 2 * n)
theorem stream_found {t : List UInt8} {n m : Nat} (h1 : 1 ≤ n) (h2 : n ≤ 5) (hm : m * n ≤ t.length) (ht : t.length < 30) :
    findL (str (streamL t n m)) n = (List.range m).map (placeAt n) := by
  have hl := streamL_length h1 (by omega) hm
  have hmm : m ≤ 29 := by have := Nat.mul_le_mul_left m h1; omega
  have hz : (str (streamL t n m)).size ≤ 20000 := by
    rw [str_size, hl]
    have : m * (4 + 2 * n) ≤ 29 * 14 := Nat.mul_le_mul hmm (by omega)
    omega
  rw [findL_in h1 (by omega) hz, str_data]
  have h := fnd_blocks (streamL t n m) n ((pieces t n m).map makeL) (blocks_all h1 (by omega) hm) 0 (Nat.zero_le _) (by rw [List.drop_zero]; rfl)
  rw [h, List.length_map, pieces_len]
  apply List.map_congr_left
  intro k _
  unfold placeAt; omega
theorem stream_piece {t : List UInt8} {n m k : Nat} (h1 : 1 ≤ n) (h2 : n ≤ 200) (hm : m * n ≤ t.length) (hk : k < m) :
    rdPiece (streamL t n m) n (placeAt n k) = scramble (spread (encodeBlock ((t.drop (k * n)).take n))) := by
  unfold rdPiece placeAt
  rw [Nat.add_comm 4, ← List.drop_drop]
  have hf : (streamL t n m).drop (k * (4 + 2 * n)) = (((pieces t n m).map makeL).drop k).flatten :=
    flat_drop k _ (fun b hb => (blocks_all h1 h2 hm b hb).1) (by rw [List.length_map, pieces_len]; omega)
  have hlen : k < ((pieces t n m).map makeL).length := by rw [List.length_map, pieces_len]; exact hk
  rw [hf, List.drop_eq_getElem_cons hlen, List.flatten_cons]
  have he : ((pieces t n m).map makeL)[k] = makeL ((t.drop (k * n)).take n) := by simp [pieces]
  rw [he]
  have hp : ((t.drop (k * n)).take n).length = n := pieces_at hm _ (by simp only [pieces, List.mem_map, List.mem_range]; exact ⟨k, hk, rfl⟩)
  obtain ⟨b1, b2, b3⟩ := block_of h1 h2 hp
  rw [List.drop_append_of_le_length (by omega), b3]
  have hb : (scramble (spread (encodeBlock ((t.drop (k * n)).take n)))).length = 2 * n := by rw [scramble_length, spread_length, encodeBlock_length, hp]
  rw [List.take_append_of_le_length (by omega), List.take_of_length_le (by omega)]
theorem stream_read {t : List UInt8} {n m : Nat} (h1 : 1 ≤ n) (h2 : n ≤ 5) (hm : m * n ≤ t.length) (ht : t.length < 30) :
    bkT (str (streamL t n m)) n = pieces t n m ∧ bkN (str (streamL t n m)) n = 0 := by
  unfold bkT bkN
  rw [stream_found h1 h2 hm ht, str_data]
  have hg := texts_all (streamL t n m) n ((List.range m).map (placeAt n)) (fun a => (t.drop ((a - 4) / (4 + 2 * n) * n)).take n) (by
    intro a ha
    rw [List.mem_map] at ha
    obtain ⟨k, hk, rfl⟩ := ha
    rw [List.mem_range] at hk
    rw [stream_piece h1 (by omega) hm hk]
    have hp : ((t.drop (k * n)).take n).length = n := pieces_at hm _ (by simp only [pieces, List.mem_map, List.mem_range]; exact ⟨k, hk, rfl⟩)
    obtain ⟨d1, d2, _⟩ := read_plain ((t.drop (k * n)).take n) (by omega)
    have e : (placeAt n k - 4) / (4 + 2 * n) = k := by
      unfold placeAt
      rw [Nat.add_sub_cancel_left, Nat.mul_div_cancel _ (by omega)]
    refine ⟨d1, ?_⟩
    show _ = (t.drop ((placeAt n k - 4) / (4 + 2 * n) * n)).take n
    rw [e]
    exact d2)
  have e2 : ((n : Int).toNat) = n := rfl
  rw [e2]
  refine ⟨hg.1.trans ?_, hg.2⟩
  rw [List.map_map]
  unfold pieces
  apply List.map_congr_left
  intro k _
  show (t.drop ((placeAt n k - 4) / (4 + 2 * n) * n)).take n = _
  have e : (placeAt n k - 4) / (4 + 2 * n) = k := by
    unfold placeAt
    rw [Nat.add_sub_cancel_left, Nat.mul_div_cancel _ (by omega)]
  rw [e]
end Go.Proofs.Ytimkjhjdddllcaa
