/- Words for rows of values that a call makes itself: what they hold, reading, storing, appending. No condition beyond the sizes that are written. -/
import Derived.Test.YtnelfadmcpacbaaBase
import Derived.Deep.RegionHeld3
namespace Go.Proofs.Ytnelfadmcpacbaa
open Go.RowKit Sat

def Is (l : List Int) : List Value := l.map fun x => Value.int IntKind.i64 x
def Ns (l : List Nat) : List Value := l.map fun (a : Nat) => Value.int IntKind.i64 (a : Int)
def Ts (l : List (List UInt8)) : List Value := l.map fun t => Value.string (str t)
theorem Is_length (l : List Int) : (Is l).length = l.length := by simp [Is]
theorem Ns_length (l : List Nat) : (Ns l).length = l.length := by simp [Ns]
theorem Ts_length (l : List (List UInt8)) : (Ts l).length = l.length := by simp [Ts]
theorem Ns_snoc (l : List Nat) (a : Nat) : Ns (l ++ [a]) = Ns l ++ [.int .i64 (a : Int)] := by simp [Ns]
theorem Ts_snoc (l : List (List UInt8)) (t : List UInt8) : Ts (l ++ [t]) = Ts l ++ [.string (str t)] := by simp [Ts]
theorem Is_at (l : List Int) (j : Nat) (h : j < l.length) : (Is l)[j]? = some (.int .i64 (l.getD j 0)) := by simp [Is, h]
theorem Ns_at (l : List Nat) (j : Nat) (h : j < l.length) : (Ns l)[j]? = some (.int .i64 ((l.getD j 0 : Nat) : Int)) := by simp [Ns, h]
theorem Ts_at (l : List (List UInt8)) (j : Nat) (h : j < l.length) : (Ts l)[j]? = some (.string (str (l.getD j []))) := by simp [Ts, h]
theorem Ns_Is (l : List Nat) : Ns l = Is (l.map fun (a : Nat) => (a : Int)) := by simp [Ns, Is]

section
variable {w w' : World} {B e size : Nat} {v : Value} {n : Nat} {xs : List Value}
/-- a call that turns nothing that was there keeps what is owned -/
theorem own_below (h : w.ownsRow B e size v n xs) (hb : Below w.heap.size w w') : w'.ownsRow B e size v n xs := by
  have hg : w.grownBy w' none := ⟨hb.os, hb.tape, hb.output, hb.size, fun k hk _ => hb.block k hk⟩
  refine World.ownsRow.kept h hg ?_
  cases hv : v.ownBlock with
  | none => exact .inl rfl
  | some k => exact .inr (by simp)
/-- a row whose block lies below M is kept by what turns nothing below M -/
theorem own_belowM {M : Nat} (h : w.ownsRow B e size v n xs) (hM : ∀ k, v.ownBlock = some k → k < M) (hb : Below M w w') : w'.ownsRow B e size v n xs := by
  refine ⟨h.1, ?_⟩
  rcases h.2 with hn | ⟨g, cap, cur, rfl, hb0, hgg, rest⟩
  · exact .inl hn
  · refine .inr ⟨g, cap, cur, rfl, hb0, ?_, rest⟩
    rw [hb.block g (hM g rfl)]; exact hgg
theorem own_ltM (h : w.ownsRow B e size v n xs) : ∀ k, v.ownBlock = some k → k < w.heap.size := fun k hk => (h.lt k hk).2
theorem own_drewN (h : w.ownsRow B e size v n xs) (m : Nat) : (w.drewN m).ownsRow B e size v n xs := h
theorem own_form (h : w.ownsRow B e size v n xs) : ∃ A c, v = .slice A n c := by
  rcases h.2 with ⟨rfl, hn⟩ | ⟨g, cap, cur, rfl, _⟩
  · rw [hn]; exact ⟨_, _, rfl⟩
  · exact ⟨_, _, rfl⟩
/-- the cells of a slice that begins a block -/
theorem own_cells {A : Option Addr} {c : Nat} (h : w.ownsRow B e size (.slice A n c) n xs) (hn : 0 < n) : ∃ g, A = some ⟨g, 0, none⟩ ∧ (∀ j, j < n * size → w.cell? ⟨g, j, none⟩ = xs[j]?) ∧ (∀ j, w.frozen? ⟨g, j, none⟩ = false) ∧ B ≤ g ∧ g < w.heap.size := by
  rcases h.2 with ⟨h', hz⟩ | ⟨g, cap, cur, h', hb, hg, rest⟩
  · omega
  · have h0 := h
    injection h' with hA hn' hc
    subst hA
    exact ⟨g, rfl, fun j hj => h0.cellAt j hj, fun j => h0.frozenAt j, h0.lt g rfl⟩
end
theorem own_lit (w : World) (e size : Nat) : (w.alloc (.cells #[] e)).ownsRow w.heap.size e size (.slice (some ⟨w.heap.size, 0, none⟩) 0 0) 0 [] :=
  World.ownsRow_lit w #[] 0 (Nat.le_refl _) (by decide) (by simp)
/-- append(v, news...), the new elements just laid in a block of their own -/
theorem wpList_appV {ops : Array Oper} {rest : List Oper} {o : Oper} {a : Act} {Q : Exit → Act → World → Prop} {wr : World} {cs : Array Value} {c : Nat} (t e : TypeId) (z : Value) (size bytes : Nat)
    (ht : Try.prog.underlying t = some (.slice e)) (hinfo : (Try.prog.info? e).map (fun i => (i.zero, i.size, i.bytes)) = some (some z, size, bytes)) (hzs : z.cells.size = size) (hsz : 0 < size) (hby : bytes ≤ 1000)
    (hgd : o.guard = none) (s x : Operand) (ho : o.op = .call { callee := .builtin .append, args := #[s, x], argTypes := #[t, t] })
    (B : Nat) (v : Value) (n m : Nat) (xs news : List Value) (hs : a.eval s = v) (hown : wr.ownsRow B e size v n xs) (hx : a.eval x = .slice (some ⟨wr.heap.size, 0, none⟩) m c) (hcs : cs = news.toArray) (hlen : news.length = m * size) (h1 : ∀ u ∈ news, u.oneCell' = true)
    (hle : n + m ≤ 1000000000) (hB : B ≤ wr.heap.size)
    (h : ∀ v' w', w'.ownsRow B e size v' (n + m) (xs ++ news) → Below B wr w' → wpList Try.prog ops Q rest (a.put o.dst v') w') : wpList Try.prog ops Q (o :: rest) a (wr.alloc (.cells cs e)) := by
  obtain ⟨i0, hi, hz0, hz1, hz2⟩ := info_parts hinfo
  subst hcs
  refine wpList_append_own _ hgd s x t ho B e i0 z size bytes ht hi hz0 hz1 hz2 hzs hsz v n xs hs (hown.alloc _) ⟨wr.heap.size, 0, none⟩ m c news hx hlen ?_ h1 (by unfold maxLen; omega) ?_ (by simp; omega) ?_
  · intro j u hj
    have : (wr.alloc (.cells news.toArray e)).cell? ⟨wr.heap.size, j, none⟩ = news.toArray[j]? := World.cell?_alloc_mark wr _ _ (0, 0) j
    have e' : (⟨wr.heap.size, 0, none⟩ : Addr).add j = ⟨wr.heap.size, j, none⟩ := by unfold Addr.add; split <;> simp_all
    rw [e', this]
    simpa using hj
  · have := Nat.mul_le_mul hle hby; omega
  · intro v' w' hown' hg _
    refine h v' w' hown' ?_
    refine Below.grown ((Below.refl B wr).alloc hB _) hg (by simp; omega) ?_
    intro k hk
    exact (hown.lt k hk).1
/-- a row of the call's own is handed back -/
def MadeRow (t size n : Nat) (xs : List Value) (w : World) (e : Ending) (w' : World) : Prop := ∃ v, e = .returned v ∧ w'.ownsRow w.heap.size t size v n xs ∧ Below w.heap.size w w'

theorem bcell {W w1 : World} (hb : Below W.heap.size W w1) : (∀ b o, b < W.heap.size → w1.cell? ⟨b, o, none⟩ = W.cell? ⟨b, o, none⟩) ∧ (∀ b o, b < W.heap.size → w1.frozen? ⟨b, o, none⟩ = W.frozen? ⟨b, o, none⟩) :=
  ⟨fun b o h => hb.cell (p := ⟨b, o, none⟩) h, fun b o h => hb.frozen (p := ⟨b, o, none⟩) h⟩
theorem below_undrew {M : Nat} {w w1 : World} (h : Below M w.drew w1) : Below M w w1 := ⟨h.os, h.tape, h.output, h.size, h.block⟩
theorem below_undrewN {M n : Nat} {w w1 : World} (h : Below M (w.drewN n) w1) : Below M w w1 := ⟨h.os, h.tape, h.output, h.size, h.block⟩
/-! ### marks -/
/-- the decimal digits of n -/
def digL : Nat → Nat → List UInt8
  | 0, _ => []
  | f + 1, n => if n = 0 then [] else digL f (n / 10) ++ [UInt8.ofNat (48 + n % 10)]
def markL (k : Nat) : List UInt8 := if k = 0 then [109, 48] else 109 :: digL 64 k
/-- the cell that a mark k is: a number or a text -/
def markV (txt : Nat → Bool) (k : Nat) (j : Nat) : Value := if txt j then .string (str (markL (k + j))) else .int .i64 ((k + j : Nat) : Int)
def markRow (txt : Nat → Bool) (k n : Nat) : List Value := (List.range n).map (markV txt k)
theorem markRow_at (txt : Nat → Bool) (k n j : Nat) (h : j < n) : (markRow txt k n)[j]? = some (markV txt k j) := by simp [markRow, h]
theorem markRow_length (txt : Nat → Bool) (k n : Nat) : (markRow txt k n).length = n := by simp [markRow]
def MarkedTo (txt : Nat → Bool) (k j : Nat) (xs : List Value) : Prop := ∀ t, t < j → xs[t]? = some (markV txt k t)
theorem MarkedTo.zero (txt : Nat → Bool) (k : Nat) (xs : List Value) : MarkedTo txt k 0 xs := fun _ h => absurd h (by omega)
theorem MarkedTo.set {txt : Nat → Bool} {k j : Nat} {xs : List Value} (h : MarkedTo txt k j xs) (hj : j < xs.length) : MarkedTo txt k (j + 1) (xs.set j (markV txt k j)) := by
  intro t ht
  rw [List.getElem?_set]
  by_cases e : j = t
  · subst e; rw [if_pos rfl, if_pos hj]
  · rw [if_neg e]; exact h t (by omega)
theorem MarkedTo.full {txt : Nat → Bool} {k n : Nat} {xs : List Value} (h : MarkedTo txt k n xs) (hn : xs.length = n) : xs = markRow txt k n := by
  apply List.ext_getElem?
  intro t
  by_cases ht : t < n
  · rw [h t ht, markRow_at _ _ _ _ ht]
  · rw [List.getElem?_eq_none (by omega), List.getElem?_eq_none (by rw [markRow_length]; omega)]
theorem digL_length (f n : Nat) : (digL f n).length ≤ f := by
  induction f generalizing n with
  | zero => simp [digL]
  | succ f ih =>
    rw [digL]
    split
    · simp
    · have := ih (n / 10); simp; omega
theorem digL_more (f n : Nat) (h : n < 10 ^ f) : ∀ g, f ≤ g → digL g n = digL f n := by
  induction f generalizing n with
  | zero =>
    intro g _
    have : n = 0 := by simpa using h
    subst this
    cases g <;> simp [digL]
  | succ f ih =>
    intro g hg
    obtain ⟨g, rfl⟩ : ∃ g', g = g' + 1 := ⟨g - 1, by omega⟩
    rw [digL, digL]
    split
    · rfl
    · rw [ih (n / 10) (by rw [Nat.pow_succ] at h; omega) g (by omega)]
theorem app_strs (a b : List UInt8) : str a ++ str b = str (a ++ b) := by
  unfold str
  exact ByteArray.mk_append_mk _ _
set_option maxHeartbeats 1600000 in
theorem l_markText (k : Nat) (w : World) (hk : k ≤ 1099511627776) :
    Calls Try.prog 66 #[.int .i64 k] w fun e w' => e = .returned (.string (str (markL k))) ∧ Below w.heap.size w w' := by
  by_cases h0 : k = 0
  · subst h0
    go_enter Try.func66, Try.ntmps66
    go_wp2
    go_ret
    exact ⟨rfl, Below.refl _ _⟩
  · have d0 : decide ((k : Int) ≤ 0) = false := decide_eq_false (by omega)
    have hpos : 0 < k := by omega
    have HM := hide (show markL k = 109 :: digL 64 k by unfold markL; rw [if_neg h0])
    clear h0
    go_enter Try.func66, Try.ntmps66
    go_wp2
    go_loopw [0, 3] (fun kv ov wr => ∃ (n : Nat) (t : List UInt8), n ≤ k ∧ kv = .int .i64 n ∧ ov = .string (str t) ∧ t.length ≤ 64 ∧ Hid (∃ f, n < 10 ^ f ∧ digL f n ++ t = digL 64 k ∧ f + t.length ≤ 64) ∧ Below w.heap.size w wr) (fun kv _ _ => (intOf kv).toNat)
    case atStart => exact ⟨k, [], Nat.le_refl _, rfl, rfl, by simp, ⟨64, by omega, by simp, by simp⟩, Below.refl _ _⟩
    case round =>
      obtain ⟨n, t, hn, rfl, rfl, ht, hd, hb⟩ := hrel
      have hsz := hb.size
      by_cases hz : 0 < n
      · have hd' : Hid (∃ f, n / 10 < 10 ^ f ∧ digL f (n / 10) ++ (UInt8.ofNat (48 + n % 10) :: t) = digL 64 k ∧ f + (UInt8.ofNat (48 + n % 10) :: t).length ≤ 64) := by
          obtain ⟨f, h1, h2, h3⟩ := hd.out
          cases f with
          | zero => simp at h1; omega
          | succ f =>
            refine ⟨f, by rw [Nat.pow_succ] at h1; omega, ?_, by simp; omega⟩
            rw [digL, if_neg (by omega)] at h2
            rw [← h2]; simp
        have hlen' : Hid ((UInt8.ofNat (48 + n % 10) :: t).length ≤ 64) := by obtain ⟨f, _, _, h3⟩ := hd'.out; show _ ≤ 64; omega
        have hby : (48 + (n : Int) % 10) = ((UInt8.ofNat (48 + n % 10)).toNat : Int) := by rw [UInt8.toNat_ofNat']; omega
        generalize UInt8.ofNat (48 + n % 10) = c at *
        have hadd := fun w => run_string_add_sum (P := Try.prog) (w := w) (str [c]) (str t) (by rw [str_size, str_size]; simp; omega)
        rw [app_strs] at hadd
        change ∀ w, _ = Result.ok (Value.string (str (c :: t))) w at hadd
        have hcw : (convert 70 9 (.slice (some ⟨wr.heap.size, 0, none⟩) 1 1)).run Try.prog (wr.alloc (.cells #[.int .u8 (48 + (n : Int) % 10)] 5)) = .ok (.string (str [c])) (wr.alloc (.cells #[.int .u8 (48 + (n : Int) % 10)] 5)) := by
          refine run_convert_bytes_back (P := Try.prog) _ 70 9 5 ⟨wr.heap.size, 0, none⟩ 1 [c] Try.underlying70 Try.underlying5 Try.underlying9 ?_
          intro j hj
          have : j = 0 := by simpa using hj
          subst this
          rw [hby]
          exact World.cell?_alloc_mark wr _ _ (0, 0) 0
        clear hd hby
        generalize hs1 : str [c] = s1 at *
        generalize hs2 : str t = s2 at *
        generalize hs3 : str (c :: t) = s3 at *
        have HS3 := hide hs3
        clear hs1 hs2 hs3
        go_wp2
        go_roundw
        case rel => exact ⟨n / 10, c :: t, by omega, by go_num, by rw [HS3.out], hlen'.out, hd', hb.alloc hsz _⟩
        case measure => simp [intOf]; omega
      · obtain rfl : n = 0 := by omega
        have hadd := fun w => run_string_add_sum (P := Try.prog) (w := w) (str [109]) (str t) (by rw [str_size, str_size]; simp; omega)
        have hfin : str [109] ++ str t = str (markL k) := by
          obtain ⟨f, _, h2, _⟩ := hd.out
          have h0 : digL f 0 = [] := by cases f <;> simp [digL]
          rw [h0] at h2
          rw [app_strs, HM.out, ← h2]; rfl
        have HF := hide hfin
        clear hd hfin
        generalize str t = s2 at *
        change ∀ w, (Op.stringOp .add ⟨#[109]⟩ s2).run Try.prog w = _ at hadd
        go_wp2
        go_ret
        exact ⟨ret_str HF.out, hb⟩
def noTxt (_ : Nat) : Bool := false
set_option maxHeartbeats 800000 in
theorem l_eqIntS (B1 B2 : Nat) (v1 v2 : Value) (l : List Int) (w : World) (h1 : w.ownsRow B1 3 1 v1 l.length (Is l)) (h2 : w.ownsRow B2 3 1 v2 l.length (Is l)) (hl : l.length ≤ 1099511627776) :
    Calls Try.prog 57 #[v1, v2] w fun e w' => e = .returned (.bool true) ∧ ∃ m, w' = w.drewN m := by
  obtain ⟨A1, c1, rfl⟩ := own_form h1
  obtain ⟨A2, c2, rfl⟩ := own_form h2
  have H1 := hide h1
  have H2 := hide h2
  clear h1 h2
  go_enter Try.func57, Try.ntmps57
  go_wp2
  go_loopw [5] (fun iv wr => ∃ k m : Nat, k ≤ l.length ∧ iv = .int .i64 k ∧ wr = w.drewN m) (fun iv _ => l.length - (intOf iv).toNat)
  case atStart => exact ⟨0, 0, Nat.zero_le _, rfl, rfl⟩
  case round =>
    obtain ⟨k, m, hk, rfl, rfl⟩ := hrel
    by_cases hlt : k < l.length
    · obtain ⟨g1, rfl, hc1, -⟩ := own_cells H1.out (by omega)
      obtain ⟨g2, rfl, hc2, -⟩ := own_cells H2.out (by omega)
      have k1 := hc1 k (by omega)
      have k2 := hc2 k (by omega)
      rw [Is_at l k hlt] at k1 k2
      clear hc1 hc2 H1 H2
      generalize l.getD k 0 = x at *
      go_wp2
      go_quiet (fail)
      go_wp2
      go_roundw
      case rel => exact ⟨k + 1, _, by omega, by go_num, rfl⟩
      case measure => simp [intOf]; omega
    · obtain rfl : k = l.length := by omega
      go_wp2
      go_ret
      exact ⟨rfl, _, rfl⟩
set_option maxHeartbeats 800000 in
theorem l_markIntS (B n k : Nat) (v : Value) (xs : List Value) (w : World) (h : w.ownsRow B 3 1 v n xs) (hn : n ≤ 1048576) (hk : k ≤ 1099511627776) (_hB : B ≤ w.heap.size) :
    Calls Try.prog 64 #[v, .int .i64 k] w fun e w' => e = .returned (.int .i64 ((k + n : Nat) : Int)) ∧ w'.ownsRow B 3 1 v n (markRow noTxt k n) ∧ Below B w w' := by
  obtain ⟨A, c, rfl⟩ := own_form h
  have H := hide h
  clear h
  go_enter Try.func64, Try.ntmps64
  go_wp2
  go_loopw [1, 5] (fun kv iv wr => ∃ (j : Nat) (ys : List Value), j ≤ n ∧ kv = .int .i64 ((k + j : Nat) : Int) ∧ iv = .int .i64 j ∧ wr.ownsRow B 3 1 (.slice A n c) n ys ∧ Hid (MarkedTo noTxt k j ys) ∧ Below B w wr) (fun _ iv _ => n - (intOf iv).toNat)
  case atStart => exact ⟨0, xs, Nat.zero_le _, rfl, rfl, H.out, MarkedTo.zero _ _ _, Below.refl _ _⟩
  case round =>
    clear H
    obtain ⟨j, ys, hj, rfl, rfl, hown, hmk, hb⟩ := hrel
    have hly : ys.length = n := by have := hown.1; omega
    by_cases hlt : j < n
    · obtain ⟨g, rfl, hc, hf, hBg, -⟩ := own_cells hown (by omega)
      have k1 := hc j (by omega)
      rw [List.getElem?_eq_getElem (by omega)] at k1
      have f1 := hf j
      have hst := hide (hown.stored j (.int .i64 ((k + j : Nat) : Int))).1
      have hm2 := hide (hmk.out.set (by omega))
      clear hc hf hown hmk
      generalize ys[j] = y at *
      go_wp2
      go_roundw
      case rel => exact ⟨j + 1, _, by omega, by go_num, by go_num, hst.out, hm2.out, hb.setCell hBg _⟩
      case measure => simp [intOf]; omega
    · obtain rfl : j = n := by omega
      have hfull := hmk.out.full hly
      subst hfull
      have HO := hide hown
      clear hown hmk hly
      go_wp2
      go_ret
      exact ⟨rfl, HO.out, hb⟩
set_option maxHeartbeats 800000 in
theorem l_heldIntS (B n k : Nat) (v : Value) (w : World) (h : w.ownsRow B 3 1 v n (markRow noTxt k n)) (hn : n ≤ 1048576) (hk : k ≤ 1099511627776) :
    Calls Try.prog 65 #[v, .int .i64 k] w fun e w' => e = .returned (.int .i64 ((k + n : Nat) : Int)) ∧ ∃ m, w' = w.drewN m := by
  obtain ⟨A, c, rfl⟩ := own_form h
  have H := hide h
  clear h
  go_enter Try.func65, Try.ntmps65
  go_wp2
  go_loopw [1, 5] (fun kv iv wr => ∃ j m : Nat, j ≤ n ∧ kv = .int .i64 ((k + j : Nat) : Int) ∧ iv = .int .i64 j ∧ wr = w.drewN m) (fun _ iv _ => n - (intOf iv).toNat)
  case atStart => exact ⟨0, 0, Nat.zero_le _, rfl, rfl, rfl⟩
  case round =>
    obtain ⟨j, m, hj, rfl, rfl, rfl⟩ := hrel
    by_cases hlt : j < n
    · obtain ⟨g, rfl, hc, -⟩ := own_cells H.out (by omega)
      have k1 := hc j (by omega)
      rw [markRow_at _ _ _ _ hlt] at k1
      change w.cell? ⟨g, j, none⟩ = some (.int .i64 ((k + j : Nat) : Int)) at k1
      clear hc H
      go_wp2
      go_roundw
      case rel => exact ⟨j + 1, _, by omega, by go_num, by go_num, rfl⟩
      case measure => simp [intOf]; omega
    · obtain rfl : j = n := by omega
      go_wp2
      go_ret
      exact ⟨rfl, _, rfl⟩
end Go.Proofs.Ytnelfadmcpacbaa
