/- What TakeFrames leaves of a packer, and the frames that it takes: plain functions. -/
import Derived.Test.YtnelfadmcpacbaaPckH
import Derived.Deep.DeepCutAuto
namespace Go.Proofs.Ytnelfadmcpacbaa
open Go.RowKit Sat
set_option linter.unusedVariables false
set_option linter.unusedSimpArgs false

abbrev Fr4 := Int × Int × Int × ByteArray
def Frs (l : List Fr4) : List Value := l.flatMap fun p => [.int .i64 p.1, .int .i64 p.2.1, .int .i64 p.2.2.1, .string p.2.2.2]
theorem Frs_length (l : List Fr4) : (Frs l).length = l.length * 4 := by
  induction l with
  | nil => rfl
  | cons p l ih => simp [Frs] at *; omega
theorem Frs_snoc (l : List Fr4) (p : Fr4) : Frs (l ++ [p]) = Frs l ++ [.int .i64 p.1, .int .i64 p.2.1, .int .i64 p.2.2.1, .string p.2.2.2] := by simp [Frs]
theorem infoF : (Try.prog.info? 41).map (fun i => (i.zero, i.size, i.bytes)) = some (some (.agg #[.int .i64 0, .int .i64 0, .int .i64 0, .string ⟨#[]⟩]), 4, 40) := by kernel_rfl
theorem one_fr (a b c : Int) (d : ByteArray) : ∀ u ∈ [Value.int .i64 a, .int .i64 b, .int .i64 c, .string d], u.oneCell' = true := by
  intro u hu
  simp only [List.mem_cons, List.not_mem_nil, or_false] at hu
  rcases hu with rfl | rfl | rfl | rfl <;> rfl
def tkRun (a : Int) : Nat → Int → ByteArray → List Int → List Fr4 → (Int × ByteArray × List Int) × List Fr4
  | 0, b, r, l, acc => ((b, r, l), acc)
  | f + 1, b, r, l, acc => if tkOk a b r l then tkRun a f (tkP a b r l).1 (tkP a b r l).2.1 (tkP a b r l).2.2 (acc ++ [tkFr a b r l]) else ((b, r, l), acc)
theorem tkRun_stop {a b : Int} {r : ByteArray} {l : List Int} (h : tkOk a b r l = false) {f : Nat} {acc : List Fr4} : tkRun a f b r l acc = ((b, r, l), acc) := by
  cases f with
  | zero => rfl
  | succ f => rw [tkRun, h]; rfl
theorem tkRun_go {a b : Int} {r : ByteArray} {l : List Int} {b' : Int} {r' : ByteArray} {l' : List Int} {x : Fr4} (h : tkOk a b r l = true) (hP : tkP a b r l = (b', r', l')) (hF : tkFr a b r l = x) {f : Nat} {acc : List Fr4} : tkRun a (f + 1) b r l acc = tkRun a f b' r' l' (acc ++ [x]) := by
  rw [tkRun, if_pos h, hP, hF]
theorem tk_same {a b : Int} {r : ByteArray} {l : List Int} {b' : Int} {r' : ByteArray} {l' : List Int} (h : tkOk a b r l = false) (hP : tkP a b r l = (b', r', l')) : b' = b ∧ r' = r ∧ l' = l := by
  have : tkP a b r l = (b, r, l) := by unfold tkP; rw [h]; rfl
  rw [this] at hP
  injection hP with h1 h2
  injection h2 with h2 h3
  exact ⟨h1.symm, h2.symm, h3.symm⟩
theorem tk_less {a b : Int} {r : ByteArray} {l : List Int} {b' : Int} {r' : ByteArray} {l' : List Int} (h : tkOk a b r l = true) (hP : tkP a b r l = (b', r', l')) : r'.size + 24 = r.size ∧ l'.length ≤ l.length := by
  have e : tkP a b r l = ((b + 1) % 256, r.extract 24 r.size, tkTo l l.length) := by unfold tkP; rw [if_pos h]
  rw [e] at hP
  injection hP with h1 h2
  injection h2 with h2 h3
  unfold tkOk at h
  rw [Bool.and_eq_true, decide_eq_true_eq] at h
  have := h.2
  subst h2
  subst h3
  refine ⟨by rw [ByteArray.size_extract]; omega, tkTo_len l l.length⟩
def tkAll (a b : Int) (r : ByteArray) (l : List Int) : (Int × ByteArray × List Int) × List Fr4 := tkRun a (r.size + 1) b r l []
def MadeTakes (a b' : Int) (r' : ByteArray) (l' : List Int) (fs : List Fr4) (w : World) (e : Ending) (w' : World) : Prop := ∃ v u, e = .returned (.tuple #[.agg #[.int .i64 a, .int .i64 b', .string r', v], u]) ∧ w'.ownsRow w.heap.size 3 1 v l'.length (Is l') ∧ w'.ownsRow w.heap.size 41 4 u fs.length (Frs fs) ∧ Apart v u ∧ Below w.heap.size w w'
def Took (a b' : Int) (r' : ByteArray) (l' : List Int) (fa fb ff : Int) (fd : ByteArray) (ok : Bool) (w : World) (e : Ending) (w' : World) : Prop := ∃ v, e = .returned (.tuple #[.agg #[.int .i64 a, .int .i64 b', .string r', v], .agg #[.int .i64 fa, .int .i64 fb, .int .i64 ff, .string fd], .bool ok]) ∧ w'.ownsRow w.heap.size 3 1 v l'.length (Is l') ∧ Below w.heap.size w w'
theorem took_of {a b : Int} {r : ByteArray} {l : List Int} {b' : Int} {r' : ByteArray} {l' : List Int} {fa fb ff : Int} {fd : ByteArray} {ok : Bool} {w w' : World} {e : Ending} (h : MadeTake a b r l w e w') (hP : tkP a b r l = (b', r', l')) (hF : tkFr a b r l = (fa, fb, ff, fd)) (hk : tkOk a b r l = ok) : Took a b' r' l' fa fb ff fd ok w e w' := by
  obtain ⟨v, h1, h2, h3⟩ := h
  rw [hP, hF, hk] at h1
  rw [hP] at h2
  exact ⟨v, h1, h2, h3⟩
theorem s_Take_is (a b : Int) (r : ByteArray) (A : Option Addr) (n c : Nat) (l : List Int) (b' : Int) (r' : ByteArray) (l' : List Int) (fa fb ff : Int) (fd : ByteArray) (ok : Bool) (w : World) (h : RI w A n l) (hc : A = none → c = 0) (hn : n ≤ 1048576) (hr : r.size ≤ 1099511627776) (hP : tkP a b r l = (b', r', l')) (hF : tkFr a b r l = (fa, fb, ff, fd)) (hk : tkOk a b r l = ok) :
    Calls Try.prog 21 #[.agg #[.int .i64 a, .int .i64 b, .string r, .slice A n c]] w (Took a b' r' l' fa fb ff fd ok w) :=
  (s_TakeFrame a b r A n c l w h hc hn hr).mono fun _ _ h => took_of h hP hF hk
theorem i_Take_is (a b : Int) (r : ByteArray) (A : Option Addr) (n c : Nat) (l : List Int) (b' : Int) (r' : ByteArray) (l' : List Int) (fa fb ff : Int) (fd : ByteArray) (ok : Bool) (w : World) (h : RI w A n l) (hn : n ≤ 1048576) (hr : r.size ≤ 1099511627776) (hP : tkP a b r l = (b', r', l')) (hF : tkFr a b r l = (fa, fb, ff, fd)) (hk : tkOk a b r l = ok) :
    Calls Try.prog 22 #[.agg #[.int .i64 a, .int .i64 b, .string r, .slice A n c]] w (Took a b' r' l' fa fb ff fd ok w) :=
  (i_TakeFrame a b r A n c l w h hn hr).mono fun _ _ h => took_of h hP hF hk
theorem tk_forms (a b : Int) (r : ByteArray) (l : List Int) : ∃ (b' : Int) (r' : ByteArray) (l' : List Int) (fa fb ff : Int) (fd : ByteArray) (ok : Bool), tkP a b r l = (b', r', l') ∧ tkFr a b r l = (fa, fb, ff, fd) ∧ tkOk a b r l = ok := ⟨_, _, _, _, _, _, _, _, rfl, rfl, rfl⟩
theorem Box.set4 {w : World} {g : Nat} {a0 a1 a2 a3 : Value} (h : Box w g [a0, a1, a2, a3]) (b0 b1 b2 b3 : Value) : Box ((((w.setCell ⟨g, 0, none⟩ b0).setCell ⟨g, 1, none⟩ b1).setCell ⟨g, 2, none⟩ b2).setCell ⟨g, 3, none⟩ b3) g [b0, b1, b2, b3] :=
  (((h.setC 0 (by simp) b0).setC 1 (by simp) b1).setC 2 (by simp) b2).setC 3 (by simp) b3
theorem Box.oth4 {w : World} {g h : Nat} {vs : List Value} (x : Box w g vs) (hne : h ≠ g) (b0 b1 b2 b3 : Value) : Box ((((w.setCell ⟨h, 0, none⟩ b0).setCell ⟨h, 1, none⟩ b1).setCell ⟨h, 2, none⟩ b2).setCell ⟨h, 3, none⟩ b3) g vs :=
  (((x.other ⟨h, 0, none⟩ hne b0).other ⟨h, 1, none⟩ hne b1).other ⟨h, 2, none⟩ hne b2).other ⟨h, 3, none⟩ hne b3
theorem own_oth4 {w : World} {B e size h : Nat} {v : Value} {n : Nat} {xs : List Value} (x : w.ownsRow B e size v n xs) (hne : v.ownBlock ≠ some h) (b0 b1 b2 b3 : Value) : ((((w.setCell ⟨h, 0, none⟩ b0).setCell ⟨h, 1, none⟩ b1).setCell ⟨h, 2, none⟩ b2).setCell ⟨h, 3, none⟩ b3).ownsRow B e size v n xs :=
  own_set2 (own_set2 (own_set2 (own_set2 x (p := ⟨h, 0, none⟩) hne b0) (p := ⟨h, 1, none⟩) hne b1) (p := ⟨h, 2, none⟩) hne b2) (p := ⟨h, 3, none⟩) hne b3
theorem below_set4 {a w : World} {M h : Nat} (x : Below M a w) (hm : M ≤ h) (b0 b1 b2 b3 : Value) : Below M a ((((w.setCell ⟨h, 0, none⟩ b0).setCell ⟨h, 1, none⟩ b1).setCell ⟨h, 2, none⟩ b2).setCell ⟨h, 3, none⟩ b3) :=
  (((x.setCell (p := ⟨h, 0, none⟩) hm b0).setCell (p := ⟨h, 1, none⟩) hm b1).setCell (p := ⟨h, 2, none⟩) hm b2).setCell (p := ⟨h, 3, none⟩) hm b3
end Go.Proofs.Ytnelfadmcpacbaa
