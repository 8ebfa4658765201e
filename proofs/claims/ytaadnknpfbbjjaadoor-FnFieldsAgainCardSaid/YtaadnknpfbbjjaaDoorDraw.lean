/- What the reference's draws do: a cursor over a code, its bytes and numbers; nothing but the cursor's block and new blocks is turned. -/
import Derived.Test.YtaadnknpfbbjjaaDoorCodeA
namespace Go.Proofs.YtaadnknpfbbjjaaDoor
open Go.RowKit Sat

/-- block g is just these cells -/
def Blk (w : World) (g : Nat) (t : TypeId) (cs : Array Value) : Prop := w.heap[g]? = some (.cells cs t (0, 0))
section
variable {w w' : World} {g : Nat} {t : TypeId} {cs : Array Value}
theorem Blk.lt (h : Blk w g t cs) : g < w.heap.size := by
  rcases Nat.lt_or_ge g w.heap.size with hlt | hge
  · exact hlt
  · unfold Blk at h; rw [Array.getElem?_eq_none hge] at h; cases h
theorem Blk.cell (h : Blk w g t cs) (i : Nat) : w.cell? ⟨g, i, none⟩ = cs[i]? := cell_of_row w g i cs t (0, 0) h
theorem Blk.frozen (h : Blk w g t cs) (i : Nat) : w.frozen? ⟨g, i, none⟩ = false := by
  unfold Blk at h
  simp [World.frozen?, h]
theorem Blk.put (h : Blk w g t cs) (i : Nat) (u : Value) : Blk (w.setCell ⟨g, i, none⟩ u) g t (cs.setIfInBounds i u) := by
  unfold Blk at h ⊢
  simp [World.setCell, Array.getElem?_modify, h]
theorem Blk.grown {row : Option Nat} (h : Blk w g t cs) (hb : w.grownBy w' row) (hg : some g ≠ row) : Blk w' g t cs := (hb.block g h.lt hg).trans h
end
theorem grown_refl (w : World) (row : Option Nat) : w.grownBy w row := ⟨rfl, rfl, rfl, Nat.le_refl _, fun _ _ _ => rfl⟩
theorem grown_trans {w w1 w2 : World} {row : Option Nat} (h1 : w.grownBy w1 row) (h2 : w1.grownBy w2 row) : w.grownBy w2 row :=
  ⟨h2.os.trans h1.os, h2.tape.trans h1.tape, h2.output.trans h1.output, Nat.le_trans h1.size h2.size, fun k hk hne => (h2.block k (Nat.lt_of_lt_of_le hk h1.size) hne).trans (h1.block k hk hne)⟩
theorem grown_drewN {w w1 : World} {row : Option Nat} (h : w.grownBy w1 row) (n : Nat) : w.grownBy (w1.drewN n) row := ⟨h.os, h.tape, h.output, h.size, h.block⟩
theorem grown_set {w w1 : World} {g : Nat} (h : w.grownBy w1 (some g)) (i : Nat) (u : Value) : w.grownBy (w1.setCell ⟨g, i, none⟩ u) (some g) :=
  ⟨h.os, h.tape, h.output, by simpa [World.setCell] using h.size, fun k hk hne => (Below.heap_setCell w1 ⟨g, i, none⟩ u k (fun e => hne (by rw [e]))).trans (h.block k hk hne)⟩
theorem below_of_grown {w w' : World} {B g : Nat} (h : w.grownBy w' (some g)) (hg : B ≤ g) (hB : B ≤ w.heap.size) : Below B w w' :=
  ⟨h.os, h.tape, h.output, h.size, fun k hk => h.block k (by omega) (by intro e; injection e with e; omega)⟩
theorem BOwn.grown {w w' : World} {B g : Nat} {v : Value} {l : List UInt8} (h : BOwn w B v l) (hg : w.grownBy w' (some g)) (hlt : g < B) : BOwn w' B v l := by
  refine World.ownsRow.kept h hg ?_
  cases hv : v.ownBlock with
  | none => exact .inl rfl
  | some k => exact .inr (by have := (h.out.lt k hv).1; intro e; injection e with e; omega)

theorem grown_alloc {w w' : World} {row : Option Nat} {o : Obj} (h : (w.alloc o).grownBy w' row) : w.grownBy w' row :=
  ⟨h.os, h.tape, h.output, Nat.le_trans (by simp) h.size, fun k hk hne => (h.block k (by simp; omega) hne).trans (Below.heap_alloc w o k hk)⟩
/-- a cursor: block g; its code lies below B -/
def Cur (w : World) (B g : Nat) : Prop := B ≤ g ∧ ∃ (a : Option Addr) (len cap : Nat) (l : List UInt8) (i h : Int),
  Blk w g 49 #[.slice a len cap, .int .i64 i, .int .i64 h] ∧ IsBytes w B a len l ∧ len ≤ 1048576 ∧ 0 ≤ i ∧ i ≤ len
theorem Cur.mk_ {w : World} {B g : Nat} (hB : B ≤ g) {a : Option Addr} {len cap : Nat} {l : List UInt8} {i h : Int} (hb : Blk w g 49 #[.slice a len cap, .int .i64 i, .int .i64 h]) (hby : IsBytes w B a len l) (hl : len ≤ 1048576) (h0 : 0 ≤ i) (h1 : i ≤ len) : Cur w B g :=
  ⟨hB, a, len, cap, l, i, h, hb, hby, hl, h0, h1⟩
theorem Cur.lt {w : World} {B g : Nat} (h : Cur w B g) : g < w.heap.size := by
  obtain ⟨_, a, len, cap, l, i, x, hbk, _⟩ := h
  exact hbk.lt
theorem Cur.drewN {w : World} {B g : Nat} (h : Cur w B g) (n : Nat) : Cur (w.drewN n) B g := h
/-- a call that turns nothing that was there keeps the cursor -/
theorem Cur.below {w w' : World} {B g : Nat} (h : Cur w B g) (hb : Below w.heap.size w w') : Cur w' B g := by
  obtain ⟨hB, a, len, cap, l, i, x, hbk, hby, hl, h0, h1⟩ := h
  have hlt := hbk.lt
  exact ⟨hB, a, len, cap, l, i, x, (hb.block g hlt).trans hbk, hby.below (hb.mono (by omega)), hl, h0, h1⟩
/-- what a draw leaves -/
def Drawn (p : Int → Prop) (B g : Nat) (w : World) (e : Ending) (w' : World) : Prop := ∃ x : Int, p x ∧ e = .returned (.int .i64 x) ∧ Cur w' B g ∧ w.grownBy w' (some g)

theorem and255 (y : Int) : 0 ≤ bits .and .i64 y 255 ∧ bits .and .i64 y 255 ≤ 255 := by
  have e : bits .and .i64 y 255 = IntKind.i64.wrap ((BitVec.ofInt 64 y &&& BitVec.ofInt 64 255).toNat : Int) := rfl
  have h : (BitVec.ofInt 64 y &&& BitVec.ofInt 64 255).toNat ≤ 255 := by
    rw [BitVec.toNat_and]
    exact Nat.le_trans Nat.and_le_right (by decide)
  generalize (BitVec.ofInt 64 y &&& BitVec.ofInt 64 255).toNat = n at *
  rw [e, IntKind.wrap_i64]
  omega
set_option maxHeartbeats 1600000 in
theorem s_Byte (B g : Nat) (w : World) (hcur : Cur w B g) :
    Calls Tryd.prog 31 #[.pointer (some ⟨g, 0, none⟩)] w (Drawn (fun x => 0 ≤ x ∧ x ≤ 255) B g w) := by
  obtain ⟨hB, a, len, cap, l, i, h, hbk, hby, hl, hi0, hi1⟩ := hcur
  have c0 := hbk.cell 0
  have c1 := hbk.cell 1
  have c2 := hbk.cell 2
  simp only [List.getElem?_toArray, List.getElem?_cons_zero, List.getElem?_cons_succ] at c0 c1 c2
  have f1 := hbk.frozen 1
  have f2 := hbk.frozen 2
  have hlt := hbk.lt
  have HB := hide hbk
  have HY := hide hby
  clear hbk hby
  obtain ⟨k, rfl⟩ := Int.eq_ofNat_of_zero_le hi0
  by_cases hin : k < len
  · obtain ⟨b, off, rfl, hbB, hc⟩ := HY.out.2.2 (by omega)
    have hcell := hc k hin
    have hne : ¬ b = g := by omega
    have hne' : ¬ g = b := by omega
    clear hc
    generalize l.getD k 0 = x at *
    have hx : x.toNat < 256 := UInt8.toNat_lt _
    go_enter Tryd.func31, Tryd.ntmps31
    go_wp2
    go_quiet (fail)
    go_wp2
    go_quiet (fail)
    go_wp2
    go_quiet (fail)
    go_wp2
    go_ret
    refine ⟨_, and255 _, rfl, Cur.mk_ hB (a := some ⟨b, off, none⟩) (len := len) (cap := cap) (l := l) (i := (k : Int) + 1) (h := wrap64 (wrap64 (h * 6364136223846793005) + 1442695040888963407)) ?_ ?_ hl (by omega) (by omega), ?_⟩
    · have h2 := (HB.out.put 2 (.int .i64 (wrap64 (wrap64 (h * 6364136223846793005) + 1442695040888963407)))).put 1 (.int .i64 ((k : Int) + 1))
      exact h2
    · exact HY.out.below (below_of_grown (grown_set (grown_drewN (grown_set (grown_refl w (some g)) 2 _) _) 1 _) hB (by omega))
    · exact grown_set (grown_drewN (grown_set (grown_refl w (some g)) 2 _) _) 1 _
  · go_enter Tryd.func31, Tryd.ntmps31
    go_wp2
    go_quiet (fail)
    go_wp2
    go_quiet (fail)
    go_wp2
    go_ret
    refine ⟨_, and255 _, rfl, Cur.mk_ hB (a := a) (len := len) (cap := cap) (l := l) (i := (k : Int)) (h := wrap64 (wrap64 (h * 6364136223846793005) + 1442695040888963407)) ?_ ?_ hl (by omega) (by omega), ?_⟩
    · exact HB.out.put 2 (.int .i64 (wrap64 (wrap64 (h * 6364136223846793005) + 1442695040888963407)))
    · exact HY.out.below (below_of_grown (grown_drewN (grown_drewN (grown_set (grown_refl w (some g)) 2 _) _) _) hB (by omega))
    · exact grown_drewN (grown_drewN (grown_set (grown_refl w (some g)) 2 _) _) _
def Low (n x : Int) : Prop := 0 ≤ x ∧ (x < n ∨ x = 0)
set_option maxHeartbeats 1600000 in
theorem s_Below (B g : Nat) (n : Int) (w : World) (hcur : Cur w B g) (hn : n ≤ 9223372036854775807) (hn' : -9223372036854775808 ≤ n) :
    Calls Tryd.prog 23 #[.pointer (some ⟨g, 0, none⟩), .int .i64 n] w (Drawn (Low n) B g w) := by
  have H := hide hcur
  clear hcur
  by_cases h0 : n ≤ 0
  · go_enter Tryd.func23, Tryd.ntmps23
    go_wp2_with fail
    go_ret
    exact ⟨0, ⟨by omega, .inr rfl⟩, rfl, H.out, grown_refl _ _⟩
  · by_cases h1 : n ≤ 256
    · go_enter Tryd.func23, Tryd.ntmps23
      go_wp2_with fail
      refine (s_Byte B g _ H.out).mono ?_
      rintro e w1 ⟨x, ⟨hx0, hx1⟩, rfl, hc, hg⟩
      have hne : (n == 0) = false := beq_eq_false_iff_ne.2 (by omega)
      have HC := hide hc
      have HG := hide hg
      clear hc hg
      go_wp2_with fail
      go_ret
      exact ⟨x % n, ⟨Int.emod_nonneg _ (by omega), .inl (Int.emod_lt_of_pos _ (by omega))⟩, rfl, HC.out, HG.out⟩
    · go_enter Tryd.func23, Tryd.ntmps23
      go_wp2_with fail
      refine (s_Byte B g _ H.out).mono ?_
      rintro e w1 ⟨x, ⟨hx0, hx1⟩, rfl, hc, hg⟩
      have HC1 := hide hc
      have HG1 := hide hg
      clear hc hg
      go_wp2_with fail
      refine (s_Byte B g _ HC1.out).mono ?_
      rintro e w2 ⟨y, ⟨hy0, hy1⟩, rfl, hc, hg⟩
      have HC2 := hide hc
      have HG2 := hide hg
      clear hc hg
      go_wp2_with fail
      refine (s_Byte B g _ HC2.out).mono ?_
      rintro e w3 ⟨z, ⟨hz0, hz1⟩, rfl, hc, hg⟩
      have HC3 := hide hc
      have HG3 := hide hg
      clear hc hg
      go_wp2_with fail
      refine (s_Byte B g _ HC3.out).mono ?_
      rintro e w4 ⟨v, ⟨hv0, hv1⟩, rfl, hc, hg⟩
      have HC4 := hide hc
      have HG4 := hide hg
      clear hc hg
      have hne : (n == 0) = false := beq_eq_false_iff_ne.2 (by omega)
      go_wp2_with fail
      go_ret
      exact ⟨(x * 16777216 + y * 65536 + z * 256 + v) % n, ⟨Int.emod_nonneg _ (by omega), .inl (Int.emod_lt_of_pos _ (by omega))⟩, rfl, HC4.out, grown_trans (grown_trans (grown_trans HG1.out HG2.out) HG3.out) HG4.out⟩
def DrawnB (B g : Nat) (w : World) (e : Ending) (w' : World) : Prop := ∃ x : Bool, e = .returned (.bool x) ∧ Cur w' B g ∧ w.grownBy w' (some g)
set_option maxHeartbeats 400000 in
theorem s_Once (B g : Nat) (n : Int) (w : World) (hcur : Cur w B g) (hn : n ≤ 9223372036854775807) (hn' : -9223372036854775808 ≤ n) :
    Calls Tryd.prog 22 #[.pointer (some ⟨g, 0, none⟩), .int .i64 n] w (DrawnB B g w) := by
  go_enter Tryd.func22, Tryd.ntmps22
  go_wp2_with fail
  refine (s_Below B g _ _ hcur hn hn').mono ?_
  rintro e w1 ⟨x, hx, rfl, hc, hg⟩
  have HC := hide hc
  have HG := hide hg
  clear hc hg hcur
  go_wp2_with fail
  go_ret
  exact ⟨_, rfl, HC.out, HG.out⟩
set_option maxRecDepth 100000 in
set_option maxHeartbeats 1600000 in
theorem s_New (a : Option Addr) (len cap : Nat) (l : List UInt8) (w : World) (h : IsBytes w w.heap.size a len l) (hl : len ≤ 1048576) :
    Calls Tryd.prog 21 #[.slice a len cap] w fun e w' => e = .returned (.pointer (some ⟨w.heap.size, 0, none⟩)) ∧ Cur w' w.heap.size w.heap.size ∧ Below w.heap.size w w' := by
  have H := hide h
  clear h
  go_enter Tryd.func21, Tryd.ntmps21
  go_wp2
  go_loop [3, 4] (fun hv iv => ∃ (x : Int) (k : Nat), k ≤ len ∧ hv = .int .i64 x ∧ iv = .int .i64 k) (fun _ iv => len - (intOf iv).toNat)
  case atStart => exact ⟨_, 0, Nat.zero_le _, rfl, rfl⟩
  case round =>
    obtain ⟨x, k, hk, rfl, rfl⟩ := hrel
    by_cases hlt : k < len
    · obtain ⟨b, off, rfl, hb, hc⟩ := H.out.2.2 (by omega)
      have hcell := hc k hlt
      clear hc
      by_cases h4 : k < 4000
      · go_wp2
        go_round
        case rel => exact ⟨_, k + 1, by omega, rfl, by go_num⟩
        case measure => simp [intOf]; omega
      · go_wp2
        go_ret
        exact ⟨rfl, Cur.mk_ (Nat.le_refl _) (a := some ⟨b, off, none⟩) (len := len) (cap := cap) (l := l) (i := 0) (h := x) (heap_alloc_new w _) (H.out.below ((Below.refl _ _).alloc (Nat.le_refl _) _)) hl (by omega) (by omega), (Below.refl _ _).alloc (Nat.le_refl _) _⟩
    · go_wp2
      go_ret
      exact ⟨rfl, Cur.mk_ (Nat.le_refl _) (a := a) (len := len) (cap := cap) (l := l) (i := 0) (h := x) (heap_alloc_new w _) (H.out.below ((Below.refl _ _).alloc (Nat.le_refl _) _)) hl (by omega) (by omega), (Below.refl _ _).alloc (Nat.le_refl _) _⟩
set_option maxHeartbeats 400000 in
theorem s_PickInt (B g b n : Nat) (zs : List Int) (w : World) (hcur : Cur w B g) (hbg : b ≠ g) (hlt : b < w.heap.size) (hn : 1 ≤ n) (hn' : n ≤ 1000000) (hz : ∀ j, j < n → w.cell? ⟨b, j, none⟩ = some (.int .i64 (zs.getD j 0))) :
    Calls Tryd.prog 32 #[.pointer (some ⟨g, 0, none⟩), .slice (some ⟨b, 0, none⟩) n n] w (Drawn (fun x => ∃ j, j < n ∧ x = zs.getD j 0) B g w) := by
  have H := hide hcur
  have HZ := hide hz
  clear hcur hz
  go_enter Tryd.func32, Tryd.ntmps32
  go_wp2_with fail
  refine (s_Below B g _ _ H.out (by omega) (by omega)).mono ?_
  rintro e w1 ⟨x, hx, rfl, hc, hg⟩
  obtain ⟨j, rfl⟩ := Int.eq_ofNat_of_zero_le hx.1
  have hj : j < n := by have := hx.2; omega
  have hcell : w1.cell? ⟨b, j, none⟩ = some (.int .i64 (zs.getD j 0)) := (World.cell?_of_block (hg.block b hlt (by intro e; injection e with e; exact hbg e))).trans (HZ.out j hj)
  have HC := hide hc
  have HG := hide hg
  clear hc hg hx
  go_wp2_with fail
  go_ret
  exact ⟨_, ⟨j, hj, rfl⟩, rfl, HC.out, HG.out⟩
def InI (x : Int) : Prop := -9223372036854775808 ≤ x ∧ x ≤ 9223372036854775807
def numList : List Int := [-1, 0, 127, 128, 16383, 16384, 1000000000, 1000000001, 9223372036854775807, -9223372036854775808]
theorem numList_in : ∀ j, j < 10 → InI (numList.getD j 0) := by unfold InI; decide +kernel
set_option maxRecDepth 100000 in
set_option maxHeartbeats 1600000 in
theorem s_Number (B g : Nat) (w : World) (hcur : Cur w B g) :
    Calls Tryd.prog 24 #[.pointer (some ⟨g, 0, none⟩)] w (Drawn InI B g w) := by
  go_enter Tryd.func24, Tryd.ntmps24
  go_wp2_with fail
  refine (s_Below B g _ _ hcur (by omega) (by omega)).mono ?_
  rintro e w1 ⟨x, hx, rfl, hc, hg⟩
  have HC := hide hc
  have HG := hide hg
  have hx0 := hx.1
  clear hc hg hx hcur
  by_cases h0 : x = 0
  · subst h0
    go_wp2_with fail
    have hlt := HC.out.lt
    refine (s_PickInt B g w1.heap.size 10 numList _ (HC.out.below ((Below.refl _ _).alloc (Nat.le_refl _) _)) (by omega) (by simp) (by omega) (by omega) ?_).mono ?_
    · intro j hj
      refine (World.cell?_alloc_mark w1 _ _ (0, 0) j).trans ?_
      obtain rfl | rfl | rfl | rfl | rfl | rfl | rfl | rfl | rfl | rfl : j = 0 ∨ j = 1 ∨ j = 2 ∨ j = 3 ∨ j = 4 ∨ j = 5 ∨ j = 6 ∨ j = 7 ∨ j = 8 ∨ j = 9 := by omega
      all_goals rfl
    · rintro e w2 ⟨y, ⟨j, hj, rfl⟩, rfl, hc, hg⟩
      have HC2 := hide hc
      have HG2 := hide hg
      have hin := hide (numList_in j hj)
      clear hc hg
      generalize numList.getD j 0 = y at *
      go_wp2_with fail
      go_ret
      exact ⟨y, hin.out, rfl, HC2.out, grown_trans HG.out (grown_alloc HG2.out)⟩
  · have d0 : (x == 0) = false := beq_eq_false_iff_ne.2 h0
    by_cases h1 : x = 1
    · subst h1
      go_wp2_with fail
      refine (s_Below B g _ _ HC.out (by omega) (by omega)).mono ?_
      rintro e w2 ⟨y, hy, rfl, hc, hg⟩
      have HC2 := hide hc
      have HG2 := hide hg
      have hy0 := hy.1
      have hy1 := hide hy.2
      clear hc hg hy
      go_wp2_with fail
      go_ret
      exact ⟨y, ⟨by omega, by have := hy1.out; omega⟩, rfl, HC2.out, grown_trans HG.out HG2.out⟩
    · have d1 : (x == 1) = false := beq_eq_false_iff_ne.2 h1
      go_wp2_with fail
      refine (s_Below B g _ _ HC.out (by omega) (by omega)).mono ?_
      rintro e w2 ⟨y, hy, rfl, hc, hg⟩
      have HC2 := hide hc
      have HG2 := hide hg
      have hy0 := hy.1
      have hy1 := hide hy.2
      clear hc hg hy
      go_wp2_with fail
      go_ret
      exact ⟨y, ⟨by omega, by have := hy1.out; omega⟩, rfl, HC2.out, grown_trans HG.out HG2.out⟩
end Go.Proofs.YtaadnknpfbbjjaaDoor
