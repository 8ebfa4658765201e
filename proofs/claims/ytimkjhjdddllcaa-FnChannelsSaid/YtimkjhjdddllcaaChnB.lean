/- What SendBlock returns, in the program and in the reference, for all ints and strings of at most 2^40 bytes. -/
import Derived.Test.YtimkjhjdddllcaaChnA
import Derived.Test.YtimkjhjdddllcaaLinkG
import Derived.Test.YtimkjhjdddllcaaStr
import Derived.Deep.RegionHeld3
import Derived.Deep.DrawnRows
namespace Go.Proofs.Ytimkjhjdddllcaa
open Go.RowKit Sat
set_option linter.unusedVariables false
set_option linter.unusedSimpArgs false
attribute [local go_sem ↓] Go.wp_at_zero Go.wp_at_succ

def sbIn (a b c : Int) (s : ByteArray) : Bool := chOk a b c && decide (4 ≤ s.size)
/-- the two numbers that are drawn -/
def sbX (a : Int) : Int := nextR a / 16 % 100
def sbSeed (a b c : Int) (s : ByteArray) : Int :=
  if sbIn a b c s then (if sbX a < c then nextR a else if sbX (nextR a) < b then burstS (nextR (nextR a)) (s.extract 4 s.size) else nextR (nextR a)) else a
def sbText (a b c : Int) (s : ByteArray) : ByteArray :=
  if sbIn a b c s then (if sbX a < c then str [] else if sbX (nextR a) < b then s.extract 0 4 ++ burstT (nextR (nextR a)) (s.extract 4 s.size) else s) else s
theorem rnd100 {a : Int} (h0 : 0 ≤ a) (h1 : a ≤ 65535) : randS a 100 = nextR a ∧ randB a 100 = sbX a := by
  unfold randS randB sbX; rw [if_neg (by omega), if_neg (by omega)]; exact ⟨rfl, rfl⟩
theorem sbX_range (a : Int) : 0 ≤ sbX a ∧ sbX a < 100 := by unfold sbX; exact ⟨Int.emod_nonneg _ (by omega), Int.emod_lt_of_pos _ (by omega)⟩
theorem below_undrewC {M : Nat} {w w1 : World} (h : Below M w.drew w1) : Below M w w1 := ⟨h.os, h.tape, h.output, h.size, h.block⟩
theorem burstT_size (seed : Int) (s : ByteArray) : (burstT seed s).size = s.size := by
  unfold burstT
  split
  · rw [str_size, burst_length]; simp
  · rfl
theorem bc3 {W w1 : World} (hb : Below W.heap.size W w1) : (∀ b o, b < W.heap.size → w1.cell? ⟨b, o, none⟩ = W.cell? ⟨b, o, none⟩) ∧ (∀ b o, b < W.heap.size → w1.frozen? ⟨b, o, none⟩ = W.frozen? ⟨b, o, none⟩) :=
  ⟨fun b o h => hb.cell (p := ⟨b, o, none⟩) h, fun b o h => hb.frozen (p := ⟨b, o, none⟩) h⟩
theorem box_cell {w w' : World} {cs : Array Value} {t : TypeId} (h : Below (w.alloc (.cells cs t)).heap.size (w.alloc (.cells cs t)) w') (j : Nat) : w'.cell? ⟨w.heap.size, j, none⟩ = cs[j]? :=
  (h.cell (p := ⟨w.heap.size, j, none⟩) (by simp)).trans (World.cell?_alloc_mark w _ _ (0, 0) j)
theorem box_below {w w' : World} {o : Obj} (h : Below (w.alloc o).heap.size (w.alloc o) w') : Below w.heap.size w w' := ((Below.refl w.heap.size w).alloc (Nat.le_refl _) _).trans (h.mono (by simp))
theorem ret_sb2 {a a' b c : Int} {x y : ByteArray} (h : a = a') (h' : x = y) : Ending.returned (.tuple #[.agg #[.int .i64 a, .int .i64 b, .int .i64 c], .string x]) = .returned (.tuple #[.agg #[.int .i64 a', .int .i64 b, .int .i64 c], .string y]) := by rw [h, h']
theorem i_ChannelOk_is (a b c : Int) (r : Bool) (w : World) (h : chOk a b c = r) :
    Calls Try.prog 30 #[.agg #[.int .i64 a, .int .i64 b, .int .i64 c]] w fun e w' => e = .returned (.bool r) ∧ Below w.heap.size w w' := by
  subst h; exact i_ChannelOk a b c w
theorem i_Rnd_is (a n x y : Int) (w : World) (hx : randS a n = x) (hy : randB a n = y) :
    Calls Try.prog 37 #[.int .i64 a, .int .i64 n] w fun e w' => e = .returned (.tuple #[.int .i64 x, .int .i64 y]) ∧ ∃ m, w' = w.drewN m := by
  subst hx; subst hy; exact i_RandomBelow a n w
set_option maxHeartbeats 800000 in
theorem i_SendBlock_out (a b c : Int) (s : ByteArray) (w : World) (hs : s.size ≤ 1099511627776) (h : chOk a b c = false ∨ chOk a b c = true ∧ s.size < 4) :
    Calls Try.prog 22 #[.agg #[.int .i64 a, .int .i64 b, .int .i64 c], .string s] w fun e w' => e = .returned (.tuple #[.agg #[.int .i64 (sbSeed a b c s), .int .i64 b, .int .i64 c], .string (sbText a b c s)]) ∧ Below w.heap.size w w' := by
  have HF := hide (show sbSeed a b c s = a ∧ sbText a b c s = s by
    have : sbIn a b c s = false := by
      unfold sbIn
      rcases h with h | ⟨_, h⟩
      · rw [h]; rfl
      · rw [decide_eq_false (by omega)]; simp
    unfold sbSeed sbText; rw [this]; exact ⟨rfl, rfl⟩)
  rcases h with hch | ⟨hch, h4⟩
  · have HC := hide hch
    clear hch
    go_enter Try.func22, Try.ntmps22
    go_wp2_with fail
    refine (i_ChannelOk_is _ _ _ _ _ HC.out).mono ?_
    rintro e w1 ⟨rfl, hb⟩
    obtain ⟨hc, hf⟩ := bc3 hb
    have c0 : w1.cell? ⟨w.heap.size + 1, 0, none⟩ = some (.int .i64 0) := by have := box_cell hb 0; simpa using this
    have c1 : w1.cell? ⟨w.heap.size + 1, 1, none⟩ = some (.int .i64 0) := by have := box_cell hb 1; simpa using this
    have c2 : w1.cell? ⟨w.heap.size + 1, 2, none⟩ = some (.int .i64 0) := by have := box_cell hb 2; simpa using this
    have p0 : w1.cell? ⟨w.heap.size, 0, none⟩ = some (.int .i64 a) := box_cell (box_below hb) 0
    have p1 : w1.cell? ⟨w.heap.size, 1, none⟩ = some (.int .i64 b) := box_cell (box_below hb) 1
    have p2 : w1.cell? ⟨w.heap.size, 2, none⟩ = some (.int .i64 c) := box_cell (box_below hb) 2
    have HB := hide hb
    clear hb hc
    go_wp2_with fail
    refine bodyPost_ret (v := .tuple #[.agg #[.int .i64 (a), .int .i64 b, .int .i64 c], .string (s)]) (by simp [results, Try.results22, go_sem, c0, c1, c2]) rfl ⟨ret_sb2 HF.out.1.symm HF.out.2.symm, ?_⟩
    have hbb := box_below (box_below HB.out)
    repeat (first | exact hbb | refine Below.drew ?_ | refine below_drewN ?_ _ | refine Below.setCell ?_ (by first | exact Nat.le_refl _ | exact Nat.le_succ _ | (simp; done) | omega) _ | refine Below.alloc ?_ (by first | exact Nat.le_refl _ | (simp; done) | omega | (simp; omega)) _)
  · have HC := hide hch
    clear hch
    go_enter Try.func22, Try.ntmps22
    go_wp2_with fail
    refine (i_ChannelOk_is _ _ _ _ _ HC.out).mono ?_
    rintro e w1 ⟨rfl, hb⟩
    obtain ⟨hc, hf⟩ := bc3 hb
    have c0 : w1.cell? ⟨w.heap.size + 1, 0, none⟩ = some (.int .i64 0) := by have := box_cell hb 0; simpa using this
    have c1 : w1.cell? ⟨w.heap.size + 1, 1, none⟩ = some (.int .i64 0) := by have := box_cell hb 1; simpa using this
    have c2 : w1.cell? ⟨w.heap.size + 1, 2, none⟩ = some (.int .i64 0) := by have := box_cell hb 2; simpa using this
    have p0 : w1.cell? ⟨w.heap.size, 0, none⟩ = some (.int .i64 a) := box_cell (box_below hb) 0
    have p1 : w1.cell? ⟨w.heap.size, 1, none⟩ = some (.int .i64 b) := box_cell (box_below hb) 1
    have p2 : w1.cell? ⟨w.heap.size, 2, none⟩ = some (.int .i64 c) := box_cell (box_below hb) 2
    have HB := hide hb
    clear hb hc
    go_wp2_with fail
    refine bodyPost_ret (v := .tuple #[.agg #[.int .i64 (a), .int .i64 b, .int .i64 c], .string (s)]) (by simp [results, Try.results22, go_sem, c0, c1, c2]) rfl ⟨ret_sb2 HF.out.1.symm HF.out.2.symm, ?_⟩
    have hbb := box_below (box_below HB.out)
    repeat (first | exact hbb | refine Below.drew ?_ | refine below_drewN ?_ _ | refine Below.setCell ?_ (by first | exact Nat.le_refl _ | exact Nat.le_succ _ | (simp; done) | omega) _ | refine Below.alloc ?_ (by first | exact Nat.le_refl _ | (simp; done) | omega | (simp; omega)) _)
set_option maxHeartbeats 1600000 in
theorem i_SendBlock_in (a b c : Int) (s : ByteArray) (w : World) (hs : s.size ≤ 1099511627776) (hch : chOk a b c = true) (h4 : 4 ≤ s.size) :
    Calls Try.prog 22 #[.agg #[.int .i64 a, .int .i64 b, .int .i64 c], .string s] w fun e w' => e = .returned (.tuple #[.agg #[.int .i64 (sbSeed a b c s), .int .i64 b, .int .i64 c], .string (sbText a b c s)]) ∧ Below w.heap.size w w' := by
  have hh := hch
  unfold chOk at hh
  simp only [Bool.and_eq_true] at hh
  have ha := of_inR hh.1.1
  have hbr := of_inR hh.1.2
  have hcr := of_inR hh.2
  have ha0 := ha.1
  have ha1 := ha.2
  have hin : sbIn a b c s = true := by unfold sbIn; rw [hch, decide_eq_true h4]; rfl
  have hr := nextR_range a
  have hr0 := hr.1
  have hr1 := hr.2
  obtain ⟨e1, e2⟩ := rnd100 ha0 ha1
  obtain ⟨e3, e4⟩ := rnd100 hr0 hr1
  have E1 := hide e1
  have E2 := hide e2
  have E3 := hide e3
  have E4 := hide e4
  have x1 := sbX_range a
  have x2 := sbX_range (nextR a)
  have HC := hide hch
  by_cases g1 : sbX a < c
  · have HF := hide (show sbSeed a b c s = nextR a ∧ sbText a b c s = str [] by unfold sbSeed sbText; rw [if_pos hin, if_pos g1, if_pos hin, if_pos g1]; exact ⟨rfl, rfl⟩)
    clear hh hch hin ha hbr hcr hr e1 e2 e3 e4 x1 x2
    generalize sbX a = X at *
    go_enter Try.func22, Try.ntmps22
    go_wp2_with fail
    refine (i_ChannelOk_is _ _ _ _ _ HC.out).mono ?_
    rintro e w1 ⟨rfl, hb⟩
    obtain ⟨hc, hf⟩ := bc3 hb
    have c0 : w1.cell? ⟨w.heap.size + 1, 0, none⟩ = some (.int .i64 0) := by have := box_cell hb 0; simpa using this
    have c1 : w1.cell? ⟨w.heap.size + 1, 1, none⟩ = some (.int .i64 0) := by have := box_cell hb 1; simpa using this
    have c2 : w1.cell? ⟨w.heap.size + 1, 2, none⟩ = some (.int .i64 0) := by have := box_cell hb 2; simpa using this
    have p0 : w1.cell? ⟨w.heap.size, 0, none⟩ = some (.int .i64 a) := box_cell (box_below hb) 0
    have p1 : w1.cell? ⟨w.heap.size, 1, none⟩ = some (.int .i64 b) := box_cell (box_below hb) 1
    have p2 : w1.cell? ⟨w.heap.size, 2, none⟩ = some (.int .i64 c) := box_cell (box_below hb) 2
    have HB := hide hb
    clear hb hc
    go_wp2_with fail
    refine (i_Rnd_is _ _ _ _ _ E1.out E2.out).mono ?_
    rintro e w2 ⟨rfl, m1, rfl⟩
    go_wp2_with fail
    refine bodyPost_ret (v := .tuple #[.agg #[.int .i64 (nextR a), .int .i64 b, .int .i64 c], .string (str [])]) (by simp [results, Try.results22, go_sem, c0, c1, c2, p0, p1, p2]; rfl) rfl ⟨ret_sb2 HF.out.1.symm HF.out.2.symm, ?_⟩
    have hbb := box_below (box_below HB.out)
    repeat (first | exact hbb | refine Below.drew ?_ | refine below_drewN ?_ _ | refine Below.setCell ?_ (by first | exact Nat.le_refl _ | exact Nat.le_succ _ | (simp; done) | omega) _ | refine Below.alloc ?_ (by first | exact Nat.le_refl _ | (simp; done) | omega | (simp; omega)) _)
  · by_cases g2 : sbX (nextR a) < b
    · have HF := hide (show sbSeed a b c s = burstS (nextR (nextR a)) (s.extract 4 s.size) ∧ sbText a b c s = s.extract 0 4 ++ burstT (nextR (nextR a)) (s.extract 4 s.size) by unfold sbSeed sbText; rw [if_pos hin, if_neg g1, if_pos g2, if_pos hin, if_neg g1, if_pos g2]; exact ⟨rfl, rfl⟩)
      have g1' : c ≤ sbX a := by omega
      clear hh hch hin ha hbr hcr hr e1 e2 e3 e4 x1 x2 g1
      generalize sbX a = X at *
      generalize sbX (nextR a) = Y at *
      go_enter Try.func22, Try.ntmps22
      go_wp2_with fail
      refine (i_ChannelOk_is _ _ _ _ _ HC.out).mono ?_
      rintro e w1 ⟨rfl, hb⟩
      obtain ⟨hc, hf⟩ := bc3 hb
      have c0 : w1.cell? ⟨w.heap.size + 1, 0, none⟩ = some (.int .i64 0) := by have := box_cell hb 0; simpa using this
      have c1 : w1.cell? ⟨w.heap.size + 1, 1, none⟩ = some (.int .i64 0) := by have := box_cell hb 1; simpa using this
      have c2 : w1.cell? ⟨w.heap.size + 1, 2, none⟩ = some (.int .i64 0) := by have := box_cell hb 2; simpa using this
      have p0 : w1.cell? ⟨w.heap.size, 0, none⟩ = some (.int .i64 a) := box_cell (box_below hb) 0
      have p1 : w1.cell? ⟨w.heap.size, 1, none⟩ = some (.int .i64 b) := box_cell (box_below hb) 1
      have p2 : w1.cell? ⟨w.heap.size, 2, none⟩ = some (.int .i64 c) := box_cell (box_below hb) 2
      have HB := hide hb
      clear hb hc
      go_wp2_with fail
      refine (i_Rnd_is _ _ _ _ _ E1.out E2.out).mono ?_
      rintro e w2 ⟨rfl, m1, rfl⟩
      go_wp2_with fail
      refine (i_Rnd_is _ _ _ _ _ E3.out E4.out).mono ?_
      rintro e w2 ⟨rfl, m2, rfl⟩
      go_wp2_with fail
      have qa : ((((w1.drewN m1).setCell ⟨w.heap.size, 0, none⟩ (.int .i64 (nextR a))).drewN m2).setCell ⟨w.heap.size, 0, none⟩ (.int .i64 (nextR (nextR a)))).cell? ⟨w.heap.size, 0, none⟩ = some (.int .i64 (nextR (nextR a))) := by simp [go_sem, p0]
      have qb : ((((w1.drewN m1).setCell ⟨w.heap.size, 0, none⟩ (.int .i64 (nextR a))).drewN m2).setCell ⟨w.heap.size, 0, none⟩ (.int .i64 (nextR (nextR a)))).cell? ⟨w.heap.size, 1, none⟩ = some (.int .i64 b) := by simp [go_sem, p1]
      have qc : ((((w1.drewN m1).setCell ⟨w.heap.size, 0, none⟩ (.int .i64 (nextR a))).drewN m2).setCell ⟨w.heap.size, 0, none⟩ (.int .i64 (nextR (nextR a)))).cell? ⟨w.heap.size, 2, none⟩ = some (.int .i64 c) := by simp [go_sem, p2]
      have qx : ((((w1.drewN m1).setCell ⟨w.heap.size, 0, none⟩ (.int .i64 (nextR a))).drewN m2).setCell ⟨w.heap.size, 0, none⟩ (.int .i64 (nextR (nextR a)))).cell? ⟨w.heap.size + 1, 0, none⟩ = some (.int .i64 0) := by simp [go_sem, c0]
      have qy : ((((w1.drewN m1).setCell ⟨w.heap.size, 0, none⟩ (.int .i64 (nextR a))).drewN m2).setCell ⟨w.heap.size, 0, none⟩ (.int .i64 (nextR (nextR a)))).cell? ⟨w.heap.size + 1, 1, none⟩ = some (.int .i64 0) := by simp [go_sem, c1]
      have qz : ((((w1.drewN m1).setCell ⟨w.heap.size, 0, none⟩ (.int .i64 (nextR a))).drewN m2).setCell ⟨w.heap.size, 0, none⟩ (.int .i64 (nextR (nextR a)))).cell? ⟨w.heap.size + 1, 2, none⟩ = some (.int .i64 0) := by simp [go_sem, c2]
      have qf : ∀ j, ((((w1.drewN m1).setCell ⟨w.heap.size, 0, none⟩ (.int .i64 (nextR a))).drewN m2).setCell ⟨w.heap.size, 0, none⟩ (.int .i64 (nextR (nextR a)))).frozen? ⟨w.heap.size, j, none⟩ = false := by intro j; simp [go_sem, hf]
      have qg : ∀ j, ((((w1.drewN m1).setCell ⟨w.heap.size, 0, none⟩ (.int .i64 (nextR a))).drewN m2).setCell ⟨w.heap.size, 0, none⟩ (.int .i64 (nextR (nextR a)))).frozen? ⟨w.heap.size + 1, j, none⟩ = false := by intro j; simp [go_sem, hf]
      have hq : Below w.heap.size w ((((w1.drewN m1).setCell ⟨w.heap.size, 0, none⟩ (.int .i64 (nextR a))).drewN m2).setCell ⟨w.heap.size, 0, none⟩ (.int .i64 (nextR (nextR a)))) := (below_drewN ((below_drewN (box_below (box_below HB.out)) m1).setCell (Nat.le_refl _) _) m2).setCell (Nat.le_refl _) _
      have hqs : w.heap.size + 1 < ((((w1.drewN m1).setCell ⟨w.heap.size, 0, none⟩ (.int .i64 (nextR a))).drewN m2).setCell ⟨w.heap.size, 0, none⟩ (.int .i64 (nextR (nextR a)))).heap.size := by
        have h1 := HB.out.size
        simp at h1 ⊢
        omega
      have qf0 := qf 0
      have QG := hide (And.intro qf qg)
      clear c0 c1 c2 p0 p1 p2 hf HB qf qg
      generalize ((((w1.drewN m1).setCell ⟨w.heap.size, 0, none⟩ (.int .i64 (nextR a))).drewN m2).setCell ⟨w.heap.size, 0, none⟩ (.int .i64 (nextR (nextR a)))) = W at *
      have hx4 : (s.extract 4 s.size).size ≤ 1099511627776 := by rw [ByteArray.size_extract]; omega
      have hx0 : (s.extract 0 4).size ≤ 4 := by rw [ByteArray.size_extract]; omega
      have hbz : (burstT (nextR (nextR a)) (s.extract 4 s.size)).size ≤ 1099511627776 := by rw [burstT_size]; exact hx4
      have i4 : (4 : Int) ≤ (s.size : Int) := by omega
      have HQ := hide hq
      clear hq
      go_region_held3 (fun w' => w'.cell? ⟨w.heap.size, 0, none⟩ = some (.int .i64 (nextR (nextR a)))) (first | go_keep | exact (hb3.cell (p := ⟨w.heap.size, 0, none⟩) (by show w.heap.size < W.heap.size; omega)).trans qa) (first | (go_at_call 12; refine (i_BurstText _ _ _ hx4).mono ?_; rintro e w3 ⟨rfl, hb3⟩))
      have hb3 := below_undrewC hb3
      have s0 : w3.cell? ⟨w.heap.size, 0, none⟩ = some (.int .i64 (nextR (nextR a))) := (hb3.cell (p := ⟨w.heap.size, 0, none⟩) (by first | (show w.heap.size < W.heap.size; omega) | (show w.heap.size + 1 < W.heap.size; omega))).trans qa
      have s1 : w3.cell? ⟨w.heap.size, 1, none⟩ = some (.int .i64 b) := (hb3.cell (p := ⟨w.heap.size, 1, none⟩) (by first | (show w.heap.size < W.heap.size; omega) | (show w.heap.size + 1 < W.heap.size; omega))).trans qb
      have s2 : w3.cell? ⟨w.heap.size, 2, none⟩ = some (.int .i64 c) := (hb3.cell (p := ⟨w.heap.size, 2, none⟩) (by first | (show w.heap.size < W.heap.size; omega) | (show w.heap.size + 1 < W.heap.size; omega))).trans qc
      have s3 : w3.cell? ⟨w.heap.size + 1, 0, none⟩ = some (.int .i64 0) := (hb3.cell (p := ⟨w.heap.size + 1, 0, none⟩) (by first | (show w.heap.size < W.heap.size; omega) | (show w.heap.size + 1 < W.heap.size; omega))).trans qx
      have s4 : w3.cell? ⟨w.heap.size + 1, 1, none⟩ = some (.int .i64 0) := (hb3.cell (p := ⟨w.heap.size + 1, 1, none⟩) (by first | (show w.heap.size < W.heap.size; omega) | (show w.heap.size + 1 < W.heap.size; omega))).trans qy
      have s5 : w3.cell? ⟨w.heap.size + 1, 2, none⟩ = some (.int .i64 0) := (hb3.cell (p := ⟨w.heap.size + 1, 2, none⟩) (by first | (show w.heap.size < W.heap.size; omega) | (show w.heap.size + 1 < W.heap.size; omega))).trans qz
      have t0 : w3.frozen? ⟨w.heap.size, 0, none⟩ = false := (hb3.frozen (p := ⟨w.heap.size, 0, none⟩) (by first | (show w.heap.size < W.heap.size; omega) | (show w.heap.size + 1 < W.heap.size; omega))).trans (QG.out.1 0)
      have t3 : w3.frozen? ⟨w.heap.size + 1, 0, none⟩ = false := (hb3.frozen (p := ⟨w.heap.size + 1, 0, none⟩) (by first | (show w.heap.size < W.heap.size; omega) | (show w.heap.size + 1 < W.heap.size; omega))).trans (QG.out.2 0)
      have t4 : w3.frozen? ⟨w.heap.size + 1, 1, none⟩ = false := (hb3.frozen (p := ⟨w.heap.size + 1, 1, none⟩) (by first | (show w.heap.size < W.heap.size; omega) | (show w.heap.size + 1 < W.heap.size; omega))).trans (QG.out.2 1)
      have t5 : w3.frozen? ⟨w.heap.size + 1, 2, none⟩ = false := (hb3.frozen (p := ⟨w.heap.size + 1, 2, none⟩) (by first | (show w.heap.size < W.heap.size; omega) | (show w.heap.size + 1 < W.heap.size; omega))).trans (QG.out.2 2)
      have HB3 := hide (HQ.out.trans (hb3.mono HQ.out.size))
      have hadd := fun w => run_string_add_sum (P := Try.prog) (w := w) (s.extract 0 4) (burstT (nextR (nextR a)) (s.extract 4 s.size)) (by omega)
      clear hb3 qa qb qc qx qy qz qf0 QG HQ
      generalize burstS (nextR (nextR a)) (s.extract 4 s.size) = L at *
      generalize burstT (nextR (nextR a)) (s.extract 4 s.size) = T at *
      go_wp2_with fail
      refine bodyPost_ret (v := .tuple #[.agg #[.int .i64 L, .int .i64 b, .int .i64 c], .string (s.extract 0 4 ++ T)]) (by simp [results, Try.results22, go_sem, s0, s1, s2, s3, s4, s5]) rfl ⟨ret_sb2 HF.out.1.symm HF.out.2.symm, ?_⟩
      have hbb := HB3.out
      repeat (first | exact hbb | refine Below.drew ?_ | refine below_drewN ?_ _ | refine Below.setCell ?_ (by first | exact Nat.le_refl _ | exact Nat.le_succ _ | (simp; done) | omega) _ | refine Below.alloc ?_ (by first | exact Nat.le_refl _ | (simp; done) | omega | (simp; omega)) _)
    · have HF := hide (show sbSeed a b c s = nextR (nextR a) ∧ sbText a b c s = s by unfold sbSeed sbText; rw [if_pos hin, if_neg g1, if_neg g2, if_pos hin, if_neg g1, if_neg g2]; exact ⟨rfl, rfl⟩)
      have g1' : c ≤ sbX a := by omega
      have g2' : b ≤ sbX (nextR a) := by omega
      clear hh hch hin ha hbr hcr hr e1 e2 e3 e4 x1 x2 g1 g2
      generalize sbX a = X at *
      generalize sbX (nextR a) = Y at *
      go_enter Try.func22, Try.ntmps22
      go_wp2_with fail
      refine (i_ChannelOk_is _ _ _ _ _ HC.out).mono ?_
      rintro e w1 ⟨rfl, hb⟩
      obtain ⟨hc, hf⟩ := bc3 hb
      have c0 : w1.cell? ⟨w.heap.size + 1, 0, none⟩ = some (.int .i64 0) := by have := box_cell hb 0; simpa using this
      have c1 : w1.cell? ⟨w.heap.size + 1, 1, none⟩ = some (.int .i64 0) := by have := box_cell hb 1; simpa using this
      have c2 : w1.cell? ⟨w.heap.size + 1, 2, none⟩ = some (.int .i64 0) := by have := box_cell hb 2; simpa using this
      have p0 : w1.cell? ⟨w.heap.size, 0, none⟩ = some (.int .i64 a) := box_cell (box_below hb) 0
      have p1 : w1.cell? ⟨w.heap.size, 1, none⟩ = some (.int .i64 b) := box_cell (box_below hb) 1
      have p2 : w1.cell? ⟨w.heap.size, 2, none⟩ = some (.int .i64 c) := box_cell (box_below hb) 2
      have HB := hide hb
      clear hb hc
      go_wp2_with fail
      refine (i_Rnd_is _ _ _ _ _ E1.out E2.out).mono ?_
      rintro e w2 ⟨rfl, m1, rfl⟩
      go_wp2_with fail
      refine (i_Rnd_is _ _ _ _ _ E3.out E4.out).mono ?_
      rintro e w2 ⟨rfl, m2, rfl⟩
      go_wp2_with fail
      refine bodyPost_ret (v := .tuple #[.agg #[.int .i64 (nextR (nextR a)), .int .i64 b, .int .i64 c], .string s]) (by simp [results, Try.results22, go_sem, c0, c1, c2, p0, p1, p2]) rfl ⟨ret_sb2 HF.out.1.symm HF.out.2.symm, ?_⟩
      have hbb := box_below (box_below HB.out)
      repeat (first | exact hbb | refine Below.drew ?_ | refine below_drewN ?_ _ | refine Below.setCell ?_ (by first | exact Nat.le_refl _ | exact Nat.le_succ _ | (simp; done) | omega) _ | refine Below.alloc ?_ (by first | exact Nat.le_refl _ | (simp; done) | omega | (simp; omega)) _)
theorem i_SendBlock (a b c : Int) (s : ByteArray) (w : World) (hs : s.size ≤ 1099511627776) :
    Calls Try.prog 22 #[.agg #[.int .i64 a, .int .i64 b, .int .i64 c], .string s] w fun e w' => e = .returned (.tuple #[.agg #[.int .i64 (sbSeed a b c s), .int .i64 b, .int .i64 c], .string (sbText a b c s)]) ∧ Below w.heap.size w w' := by
  cases h : chOk a b c with
  | false => exact i_SendBlock_out a b c s w hs (.inl h)
  | true =>
    by_cases h4 : 4 ≤ s.size
    · exact i_SendBlock_in a b c s w hs h h4
    · exact i_SendBlock_out a b c s w hs (.inr ⟨h, by omega⟩)
set_option maxHeartbeats 1600000 in
theorem l_eqChannel (a b c : Int) (w : World) :
    Calls Try.prog 23 #[.agg #[.int .i64 a, .int .i64 b, .int .i64 c], .agg #[.int .i64 a, .int .i64 b, .int .i64 c]] w fun e w' => e = .returned (.bool true) ∧ Below w.heap.size w w' := by
  go_enter Try.func23, Try.ntmps23
  go_wp2
  go_ret
  exact ⟨rfl, (by repeat (first | exact Below.refl _ _ | refine Below.drew ?_ | refine below_drewN ?_ _ | refine Below.alloc ?_ (by first | exact Nat.le_refl _ | (simp; done) | (simp; omega)) _))⟩
end Go.Proofs.Ytimkjhjdddllcaa
