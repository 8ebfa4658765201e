/- What the laws' helpers on packers do: the size test, the copy in memory of its own, the comparison, the marks. -/
import Derived.Test.YtnelfadmcpacbaaFrmB
import Derived.Test.YtnelfadmcpacbaaOwnW
import Derived.Deep.QuietTactic
import Derived.BigQuiet
namespace Go.Proofs.Ytnelfadmcpacbaa
open Go.RowKit Sat
set_option linter.unusedVariables false
set_option linter.unusedSimpArgs false

/-- block g holds the values vs, and may be written -/
def Box (w : World) (g : Nat) (vs : List Value) : Prop := g < w.heap.size ∧ (∀ j, j < vs.length → w.cell? ⟨g, j, none⟩ = vs[j]?) ∧ ∀ j, j < vs.length → w.frozen? ⟨g, j, none⟩ = false
theorem Box.new (w : World) (vs : Array Value) (t : TypeId) : Box (w.alloc (.cells vs t)) w.heap.size vs.toList := by
  refine ⟨by simp, fun j _ => ?_, fun j _ => ?_⟩
  · rw [World.cell?_alloc_mark w _ _ (0, 0) j]; simp
  · simp [go_sem]
theorem Box.below {w w' : World} {g : Nat} {vs : List Value} (h : Box w g vs) (hb : Below w.heap.size w w') : Box w' g vs :=
  ⟨Nat.lt_of_lt_of_le h.1 hb.size, fun j hj => (hb.cell (p := ⟨g, j, none⟩) h.1).trans (h.2.1 j hj), fun j hj => (hb.frozen (p := ⟨g, j, none⟩) h.1).trans (h.2.2 j hj)⟩
theorem Box.belowM {w w' : World} {g M : Nat} {vs : List Value} (h : Box w g vs) (hg : g < M) (hb : Below M w w') : Box w' g vs :=
  ⟨Nat.lt_of_lt_of_le h.1 hb.size, fun j hj => (hb.cell (p := ⟨g, j, none⟩) hg).trans (h.2.1 j hj), fun j hj => (hb.frozen (p := ⟨g, j, none⟩) hg).trans (h.2.2 j hj)⟩
theorem Box.alloc {w : World} {g : Nat} {vs : List Value} (h : Box w g vs) (o : Obj) : Box (w.alloc o) g vs := h.below ((Below.refl _ _).alloc (Nat.le_refl _) _)
theorem Box.drewN {w : World} {g : Nat} {vs : List Value} (h : Box w g vs) (m : Nat) : Box (w.drewN m) g vs := h
theorem Box.drew {w : World} {g : Nat} {vs : List Value} (h : Box w g vs) : Box w.drew g vs := h
theorem Box.c {w : World} {g : Nat} {vs : List Value} (h : Box w g vs) (j : Nat) {v : Value} (hv : vs[j]? = some v) : w.cell? ⟨g, j, none⟩ = some v := by
  rw [h.2.1 j (List.getElem?_eq_some_iff.1 hv).1, hv]
theorem Box.f {w : World} {g : Nat} {vs : List Value} (h : Box w g vs) (j : Nat) (hj : j < vs.length) : w.frozen? ⟨g, j, none⟩ = false := h.2.2 j hj
theorem keep44 {w w' : World} {g h : Nat} {a0 a1 a2 a3 b0 b1 b2 b3 : Value} (x : Box w g [a0, a1, a2, a3]) (y : Box w h [b0, b1, b2, b3]) (hb : Below w.heap.size w w') :
    w'.cell? ⟨g, 0, none⟩ = some a0 ∧ w'.cell? ⟨g, 1, none⟩ = some a1 ∧ w'.cell? ⟨g, 2, none⟩ = some a2 ∧ w'.cell? ⟨g, 3, none⟩ = some a3 ∧ w'.cell? ⟨h, 0, none⟩ = some b0 ∧ w'.cell? ⟨h, 1, none⟩ = some b1 ∧ w'.cell? ⟨h, 2, none⟩ = some b2 ∧ w'.cell? ⟨h, 3, none⟩ = some b3 :=
  ⟨(x.below hb).c 0 rfl, (x.below hb).c 1 rfl, (x.below hb).c 2 rfl, (x.below hb).c 3 rfl, (y.below hb).c 0 rfl, (y.below hb).c 1 rfl, (y.below hb).c 2 rfl, (y.below hb).c 3 rfl⟩
/-- the slice of length n at A reads as the ints l -/
def RI (w : World) (A : Option Addr) (n : Nat) (l : List Int) : Prop :=
  l.length = n ∧ (0 < n → ∃ g off, A = some ⟨g, off, none⟩ ∧ g < w.heap.size ∧ ∀ j, j < n → w.cell? ⟨g, off + j, none⟩ = some (.int .i64 (l.getD j 0)))
theorem RI.below {w w' : World} {A : Option Addr} {n : Nat} {l : List Int} (h : RI w A n l) (hb : Below w.heap.size w w') : RI w' A n l :=
  ⟨h.1, fun hp => by
    obtain ⟨g, off, e, hlt, hc⟩ := h.2 hp
    exact ⟨g, off, e, Nat.lt_of_lt_of_le hlt hb.size, fun j hj => (hb.cell (p := ⟨g, off + j, none⟩) hlt).trans (hc j hj)⟩⟩
theorem RI.drewN {w : World} {A : Option Addr} {n : Nat} {l : List Int} (h : RI w A n l) (m : Nat) : RI (w.drewN m) A n l := h
theorem RI.of_own {w : World} {B : Nat} {A : Option Addr} {n c : Nat} {l : List Int} (h : w.ownsRow B 3 1 (.slice A n c) n (Is l)) : RI w A n l := by
  have hl : l.length = n := by have := h.1; rw [Is_length] at this; omega
  refine ⟨hl, fun hp => ?_⟩
  obtain ⟨g, e, hc, _, _, hg⟩ := own_cells h hp
  refine ⟨g, 0, e, hg, fun j hj => ?_⟩
  rw [Nat.zero_add, hc j (by omega), Is_at l j (by omega)]
theorem own_set {w : World} {B e size : Nat} {v : Value} {n : Nat} {xs : List Value} (h : w.ownsRow B e size v n xs) {p : Addr} (hg : p.block < B) (u : Value) : (w.setCell p u).ownsRow B e size v n xs := by
  refine ⟨h.1, ?_⟩
  rcases h.2 with hn | ⟨g, cap, cur, rfl, hb0, hgg, rest⟩
  · exact .inl hn
  · refine .inr ⟨g, cap, cur, rfl, hb0, ?_, rest⟩
    rw [Below.heap_setCell _ _ _ _ (by omega)]; exact hgg
theorem infoI : (Try.prog.info? 3).map (fun i => (i.zero, i.size, i.bytes)) = some (some (.int .i64 0), 1, 8) := by kernel_rfl
/-- make([]int, n): n times 0 -/
theorem wpList_mkI {ops : Array Oper} {rest : List Oper} {o : Oper} {a : Act} {Q : Exit → Act → World → Prop} {w : World} (hg : o.guard = none) (l c : Operand) (hop : o.op = Op.makeSlice 22 l c)
    (L C : Int) (n : Nat) (hl : a.eval l = .int .i64 L) (hc : a.eval c = .int .i64 C) (hL : L = (n : Int)) (hC : C = (n : Int)) (hn : n ≤ 1099511627776)
    (hK : ∀ w', w'.ownsRow w.heap.size 3 1 (.slice (some ⟨w.heap.size, 0, none⟩) n n) n (Is (List.replicate n 0)) → Below w.heap.size w w' → wpList Try.prog ops Q rest (a.put o.dst (.slice (some ⟨w.heap.size, 0, none⟩) n n)) w') :
    wpList Try.prog ops Q (o :: rest) a w := by
  obtain ⟨i0, hi, hz0, hz1, hz2⟩ := info_parts infoI
  refine wpList_make_full w hg l c 22 hop w.heap.size 3 i0 (.int .i64 0) 1 Try.underlying22 hi hz0 hz1 .i64 .i64 L C n hl hc hL hC (by rw [hz2]; omega) (by unfold maxLen; omega) (Nat.le_refl _) ?_
  intro w' hown hgr
  refine hK w' ?_ (Below.grown (Below.refl _ w) hgr (Nat.le_refl _) (by simp))
  have e : (madeCells (Value.int .i64 0).cells (n * 1)).toList = Is (List.replicate n 0) := by
    rw [Nat.mul_one, show Is (List.replicate n 0) = List.replicate n (Value.int .i64 0) by simp [Is]]; exact toList_madeCells_one _ _
  rw [← e]; exact hown
/-- the first k are copied, the others are 0 -/
def cpTo (l : List Int) (k : Nat) : List Int := (List.range l.length).map fun j => if j < k then l.getD j 0 else 0
theorem cpTo_zero (l : List Int) : cpTo l 0 = List.replicate l.length 0 := by
  apply List.ext_getElem? ; intro j
  simp only [cpTo, List.getElem?_map, List.getElem?_range, List.getElem?_replicate]
  by_cases h : j < l.length <;> simp [h]
theorem cpTo_full (l : List Int) : cpTo l l.length = l := by
  apply List.ext_getElem? ; intro j
  by_cases h : j < l.length
  · simp [cpTo, h]
  · simp [cpTo, h]
theorem cpTo_len (l : List Int) (k : Nat) : (cpTo l k).length = l.length := by simp [cpTo]
theorem cpTo_set (l : List Int) (k : Nat) (h : k < l.length) : (Is (cpTo l k)).set k (.int .i64 (l.getD k 0)) = Is (cpTo l (k + 1)) := by
  apply List.ext_getElem? ; intro j
  rw [List.getElem?_set]
  by_cases e : k = j
  · subst e
    rw [if_pos rfl, if_pos (by rw [Is_length, cpTo_len]; exact h)]
    simp [Is, cpTo, h]
  · rw [if_neg e]
    by_cases hj : j < l.length
    · have : (j < k) = (j < k + 1) := by apply propext; omega
      simp [Is, cpTo, hj, this]
    · simp [Is, cpTo, hj]
set_option maxHeartbeats 1600000 in
theorem l_toIntS (A : Option Addr) (n c : Nat) (l : List Int) (w : World) (h : RI w A n l) (hn : n ≤ 1048576) :
    Calls Try.prog 55 #[.slice A n c] w (MadeRow 3 1 n (Is l) w) := by
  have HL := hide h.1
  have H := hide h
  clear h
  go_enter Try.func55, Try.ntmps55
  go_wp2_with (at_make; refine wpList_mkI rfl _ _ rfl _ _ n rfl rfl (by omega) (by omega) (by omega) ?_; intro w1 hown hb)
  go_loopw [4] (fun iv wr => ∃ k : Nat, k ≤ n ∧ iv = .int .i64 k ∧ wr.ownsRow w.heap.size 3 1 (.slice (some ⟨w.heap.size, 0, none⟩) n n) n (Is (cpTo l k)) ∧ Below w.heap.size w wr) (fun iv _ => n - (intOf iv).toNat)
  case atStart => exact ⟨0, Nat.zero_le _, rfl, by rw [cpTo_zero, HL.out]; exact hown, hb⟩
  case round =>
    clear hown hb
    obtain ⟨k, hk, rfl, hown, hb⟩ := hrel
    by_cases hlt : k < n
    · obtain ⟨g, off, rfl, hg, hc⟩ := (H.out.below hb).2 (by omega)
      have k1 := hc k hlt
      have hcl := hown.cellAt k (by omega)
      have hfr := hown.frozenAt k
      rw [Is_at (cpTo l k) k (by rw [cpTo_len, HL.out]; exact hlt)] at hcl
      have hst := hide (hown.stored k (.int .i64 (l.getD k 0))).1
      have hcs := hide (cpTo_set l k (by rw [HL.out]; exact hlt))
      clear hc hown
      generalize l.getD k 0 = x at *
      generalize (cpTo l k).getD k 0 = y at *
      go_wp2
      go_roundw
      case rel => exact ⟨k + 1, by omega, by go_num, by rw [← hcs.out]; exact hst.out, hb.setCell (Nat.le_refl _) _⟩
      case measure => simp [intOf]; omega
    · obtain rfl : k = n := by omega
      have HO := hide hown
      clear hown
      go_wp2
      go_ret
      exact ⟨_, rfl, by have := HO.out; rw [← HL.out, cpTo_full] at this; rw [← HL.out]; exact this, hb⟩
set_option maxHeartbeats 400000 in
theorem l_szPacker_no (a b : Int) (r : ByteArray) (A : Option Addr) (n c : Nat) (lf : Int) (w : World) (hn0 : 0 ≤ lf) (hn : lf ≤ 1048576) (hd : r.size ≤ 9223372036854775807) (h : (r.size : Int) + n ≤ lf) :
    Calls Try.prog 10 #[.agg #[.int .i64 a, .int .i64 b, .string r, .slice A n c], .int .i64 lf] w fun e w' => e = .returned (.int .i64 (lf - r.size - n)) ∧ Below w.heap.size w w' := by
  have d1 : decide (lf - (r.size : Int) < 0) = false := decide_eq_false (by omega)
  have d2 : decide (lf - (r.size : Int) - (n : Int) < 0) = false := decide_eq_false (by omega)
  go_enter Try.func10, Try.ntmps10
  go_wp2
  go_ret
  exact ⟨rfl, (by repeat (first | exact Below.refl _ _ | refine Below.drew ?_ | refine below_drewN ?_ _ | refine Below.alloc ?_ (by first | exact Nat.le_refl _ | (simp; done) | (simp; omega)) _))⟩
set_option maxHeartbeats 800000 in
theorem l_szPacker_big (a b : Int) (r : ByteArray) (A : Option Addr) (n c : Nat) (lf : Int) (w : World) (hn0 : 0 ≤ lf) (hn : lf ≤ 1048576) (hd : r.size ≤ 9223372036854775807) (hd2 : n ≤ 9223372036854775807) (h : lf < (r.size : Int) + n) :
    Calls Try.prog 10 #[.agg #[.int .i64 a, .int .i64 b, .string r, .slice A n c], .int .i64 lf] w fun e w' => e = .returned (.int .i64 (-1)) ∧ Below w.heap.size w w' := by
  by_cases h1 : lf < (r.size : Int)
  · have d1 : decide (lf - (r.size : Int) < 0) = true := decide_eq_true (by omega)
    go_enter Try.func10, Try.ntmps10
    go_wp2
    go_ret
    exact ⟨rfl, (by repeat (first | exact Below.refl _ _ | refine Below.drew ?_ | refine below_drewN ?_ _ | refine Below.alloc ?_ (by first | exact Nat.le_refl _ | (simp; done) | (simp; omega)) _))⟩
  · have d1 : decide (lf - (r.size : Int) < 0) = false := decide_eq_false (by omega)
    have d2 : decide (lf - (r.size : Int) - (n : Int) < 0) = true := decide_eq_true (by omega)
    go_enter Try.func10, Try.ntmps10
    go_wp2
    go_ret
    exact ⟨rfl, (by repeat (first | exact Below.refl _ _ | refine Below.drew ?_ | refine below_drewN ?_ _ | refine Below.alloc ?_ (by first | exact Nat.le_refl _ | (simp; done) | (simp; omega)) _))⟩
/-- a packer whose starts lie in a row of the call's own is handed back -/
def MadePacker (a b : Int) (r : ByteArray) (n : Nat) (l : List Int) (w : World) (e : Ending) (w' : World) : Prop := ∃ v, e = .returned (.agg #[.int .i64 a, .int .i64 b, .string r, v]) ∧ w'.ownsRow w.heap.size 3 1 v n (Is l) ∧ Below w.heap.size w w'
set_option maxHeartbeats 1600000 in
theorem l_toPacker (a b : Int) (r : ByteArray) (A : Option Addr) (n c : Nat) (l : List Int) (w : World) (h : RI w A n l) (hn : n ≤ 1048576) :
    Calls Try.prog 12 #[.agg #[.int .i64 a, .int .i64 b, .string r, .slice A n c]] w (MadePacker a b r n l w) := by
  have H := hide h
  clear h
  go_enter Try.func12, Try.ntmps12
  go_wp2_with fail
  have hbW : Below w.heap.size w (((w.alloc (.cells #[.int .i64 a, .int .i64 b, .string r, .slice A n c] 24)).alloc (.cells #[.int .i64 0, .int .i64 0, .string ⟨#[]⟩, .slice none 0 0] 27)).alloc (.cells #[.int .i64 a, .int .i64 b, .string r, .slice none 0 0] 27)) := (((Below.refl w.heap.size w).alloc (Nat.le_refl _) _).alloc (by simp) _).alloc (by simp; omega) _
  have ob : Box (((w.alloc (.cells #[.int .i64 a, .int .i64 b, .string r, .slice A n c] 24)).alloc (.cells #[.int .i64 0, .int .i64 0, .string ⟨#[]⟩, .slice none 0 0] 27)).alloc (.cells #[.int .i64 a, .int .i64 b, .string r, .slice none 0 0] 27)) (w.heap.size + 1 + 1) [.int .i64 a, .int .i64 b, .string r, .slice none 0 0] := by
    have := Box.new ((w.alloc (.cells #[.int .i64 a, .int .i64 b, .string r, .slice A n c] 24)).alloc (.cells #[.int .i64 0, .int .i64 0, .string ⟨#[]⟩, .slice none 0 0] 27)) #[.int .i64 a, .int .i64 b, .string r, .slice none 0 0] 27
    simpa using this
  have rb : Box (((w.alloc (.cells #[.int .i64 a, .int .i64 b, .string r, .slice A n c] 24)).alloc (.cells #[.int .i64 0, .int .i64 0, .string ⟨#[]⟩, .slice none 0 0] 27)).alloc (.cells #[.int .i64 a, .int .i64 b, .string r, .slice none 0 0] 27)) (w.heap.size + 1) [.int .i64 0, .int .i64 0, .string ⟨#[]⟩, .slice none 0 0] := by
    have := (Box.new (w.alloc (.cells #[.int .i64 a, .int .i64 b, .string r, .slice A n c] 24)) #[.int .i64 0, .int .i64 0, .string ⟨#[]⟩, .slice none 0 0] 27).alloc (.cells #[.int .i64 a, .int .i64 b, .string r, .slice none 0 0] 27)
    simpa using this
  generalize (((w.alloc (.cells #[.int .i64 a, .int .i64 b, .string r, .slice A n c] 24)).alloc (.cells #[.int .i64 0, .int .i64 0, .string ⟨#[]⟩, .slice none 0 0] 27)).alloc (.cells #[.int .i64 a, .int .i64 b, .string r, .slice none 0 0] 27)) = W at *
  have HW := hide hbW
  have OB := hide ob
  have RB := hide rb
  clear hbW ob rb
  refine (l_toIntS _ _ _ l _ (H.out.below HW.out) hn).mono ?_
  rintro e w1 ⟨v, rfl, ho, hb⟩
  obtain ⟨A', c', rfl⟩ := own_form ho
  have hg1 : w.heap.size + 1 < W.heap.size := RB.out.1
  have hg2 : w.heap.size + 1 + 1 < W.heap.size := OB.out.1
  have ob := OB.out.below hb
  have rb := RB.out.below hb
  have HO := hide ho
  have HB := hide (HW.out.trans (hb.mono HW.out.size))
  have HWs := hide HW.out.size
  have o0 := ob.c 0 rfl
  have o1 := ob.c 1 rfl
  have o2 := ob.c 2 rfl
  have o3 := ob.c 3 rfl
  have p3 := ob.f 3 (by simp)
  have r0 := rb.c 0 rfl
  have r1 := rb.c 1 rfl
  have r2 := rb.c 2 rfl
  have r3 := rb.c 3 rfl
  have q0 := rb.f 0 (by simp)
  have q1 := rb.f 1 (by simp)
  have q2 := rb.f 2 (by simp)
  have q3 := rb.f 3 (by simp)
  clear ob rb ho hb OB RB H HW
  have HG := hide (And.intro hg1 hg2)
  clear hg1 hg2
  go_wp2_with fail
  refine bodyPost_ret (v := .agg #[.int .i64 a, .int .i64 b, .string r, .slice A' n c']) (by simp [results, Try.results12, go_sem, o0, o1, o2, o3, r0, r1, r2, r3]) rfl ⟨_, rfl, ?_, ?_⟩
  · obtain ⟨hg1, hg2⟩ := HG.out
    have hoo := HO.out
    refine own_mono ?_ HWs.out
    repeat (first | with_reducible exact hoo | with_reducible refine own_set ?_ (by first | exact hg1 | exact hg2) _)
  · have hbb := HB.out
    repeat (first | exact hbb | refine Below.drew ?_ | refine below_drewN ?_ _ | refine Below.setCell ?_ (by first | exact Nat.le_refl _ | exact Nat.le_succ _ | (simp; done) | omega | (simp; omega)) _ | refine Below.alloc ?_ (by first | exact Nat.le_refl _ | (simp; done) | omega | (simp; omega)) _)
end Go.Proofs.Ytnelfadmcpacbaa
