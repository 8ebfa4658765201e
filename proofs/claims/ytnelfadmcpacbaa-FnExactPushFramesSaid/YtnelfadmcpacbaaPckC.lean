/- Copies of a packer in memory of their own: slices.Clone at []int, the program's clonePacker, the reference's l03Copy. -/
import Derived.Test.YtnelfadmcpacbaaPckB
import Derived.Lib.SliceRun
import Derived.Laws.AppendOwnNone
namespace Go.Proofs.Ytnelfadmcpacbaa
open Go.RowKit Sat
set_option linter.unusedVariables false
set_option linter.unusedSimpArgs false
attribute [local go_sem ↓] Go.wp_at_zero Go.wp_at_succ

set_option maxRecDepth 100000 in
/-- append([]int{}, s...), the empty row just laid, s not nil -/
theorem wpList_copyI {ops : Array Oper} {rest : List Oper} {o : Oper} {a : Act} {Q : Exit → Act → World → Prop} {wr : World} (hgd : o.guard = none) (s x : Operand) (ho : o.op = .call { callee := .builtin .append, args := #[s, x], argTypes := #[22, 22] })
    (ad : Addr) (n c : Nat) (l : List Int) (hs : a.eval s = .slice (some ⟨wr.heap.size, 0, none⟩) 0 0) (hx : a.eval x = .slice (some ad) n c) (hr : RI wr (some ad) n l) (hle : n ≤ 1048576)
    (h : ∀ v' w', w'.ownsRow wr.heap.size 3 1 v' n (Is l) → Below wr.heap.size wr w' → wpList Try.prog ops Q rest (a.put o.dst v') w') : wpList Try.prog ops Q (o :: rest) a (wr.alloc (.cells #[] 3)) := by
  obtain ⟨i0, hi, hz0, hz1, hz2⟩ := info_parts infoI
  have hr' := hr.below ((Below.refl wr.heap.size wr).alloc (Nat.le_refl _) (.cells #[] 3))
  refine wpList_append_own _ hgd s x 22 ho wr.heap.size 3 i0 (.int .i64 0) 1 8 Try.underlying22 hi hz0 hz1 hz2 rfl (by decide) _ 0 [] hs (own_lit wr _ _) ad n c (Is l) hx (by rw [Is_length, hr.1]; omega) ?_ ?_ (by unfold maxLen; omega) (by omega) (by simp) ?_
  · intro j u hj
    have hlt : j < (Is l).length := (List.getElem?_eq_some_iff.1 hj).1
    rw [Is_length, hr.1] at hlt
    obtain ⟨g, off, e, _, hc⟩ := hr'.2 (by omega)
    obtain rfl := Option.some.inj e
    have e' : (⟨g, off, none⟩ : Addr).add j = ⟨g, off + j, none⟩ := by unfold Addr.add; split <;> simp_all
    rw [e', hc j hlt, ← hj, Is_at l j (by rw [hr.1]; exact hlt)]
  · intro u hu
    simp only [Is, List.mem_map] at hu
    obtain ⟨x, _, rfl⟩ := hu
    rfl
  · intro v' w' hown' hg _
    refine h v' w' (by simpa using hown') ?_
    refine Below.grown ((Below.refl wr.heap.size wr).alloc (Nat.le_refl _) _) hg (by simp) ?_
    intro k hk
    simp [Value.ownBlock] at hk
    omega
theorem own_nilc {w : World} {B e size n c : Nat} {A : Option Addr} {xs : List Value} (h : w.ownsRow B e size (.slice A n c) n xs) : A = none → c = 0 := by
  intro hA
  subst hA
  rcases h.2 with ⟨h1, _⟩ | ⟨g, cap, cur, h1, _⟩
  · injection h1
  · injection h1 with h2; cases h2
/-- append([]int{}, s...), the empty row just laid, s nil or not -/
theorem wpList_copyN {ops : Array Oper} {rest : List Oper} {o : Oper} {a : Act} {Q : Exit → Act → World → Prop} {wr : World} (hgd : o.guard = none) (s x : Operand) (ho : o.op = .call { callee := .builtin .append, args := #[s, x], argTypes := #[22, 22] })
    (H : Nat) (hH : wr.heap.size = H) (A : Option Addr) (n c : Nat) (l : List Int) (hs : a.eval s = .slice (some ⟨H, 0, none⟩) 0 0) (hx : a.eval x = .slice A n c) (hr : RI wr A n l) (hc : A = none → c = 0) (hle : n ≤ 1048576)
    (h : ∀ v' w', w'.ownsRow wr.heap.size 3 1 v' n (Is l) → Below wr.heap.size wr w' → wpList Try.prog ops Q rest (a.put o.dst v') w') : wpList Try.prog ops Q (o :: rest) a (wr.alloc (.cells #[] 3)) := by
  subst hH
  cases A with
  | some ad => exact wpList_copyI hgd s x ho ad n c l hs hx hr hle h
  | none =>
    have hn0 : n = 0 := by
      rcases Nat.eq_zero_or_pos n with h0 | h0
      · exact h0
      · obtain ⟨g, off, e, _⟩ := hr.2 h0; cases e
    subst hn0
    have hl : l = [] := List.eq_nil_of_length_eq_zero hr.1
    subst hl
    have := hc rfl
    subst this
    obtain ⟨i0, hi, _⟩ := info_parts infoI
    exact wpList_append_own_none hgd s x 22 ho wr.heap.size 3 i0 1 Try.underlying22 hi _ 0 [] hs (own_lit wr _ _) hx (h _ _ (own_lit wr _ _) ((Below.refl _ _).alloc (Nat.le_refl _) _))
set_option maxHeartbeats 800000 in
theorem g_Clone (A : Option Addr) (n c : Nat) (l : List Int) (w : World) (h : RI w A n l) (hn : n ≤ 1048576) :
    Calls Try.prog 81 #[.slice A n c] w (MadeRow 3 1 n (Is l) w) := by
  have q : ∀ (w : World) (a : Option Addr) (n c n' c' : Nat), (binOp .eql 22 (.slice a n c) (.slice none n' c')).run Try.prog w = .ok (.bool a.isNone) w := fun w a n c n' c' => Lib.run_eql_slice_nil w _ _ a n c n' c' Try.underlying22
  cases A with
  | none =>
    have hn0 : n = 0 := by
      rcases Nat.eq_zero_or_pos n with h0 | h0
      · exact h0
      · obtain ⟨g, off, e, _⟩ := h.2 h0; cases e
    subst hn0
    have hl : l = [] := List.eq_nil_of_length_eq_zero h.1
    subst hl
    clear h
    go_enter Try.func81, Try.ntmps81
    go_wp2
    go_ret
    exact ⟨_, rfl, World.ownsRow_nil _ _ _ _, Below.refl _ _⟩
  | some ad =>
    have H := hide h
    clear h
    go_enter Try.func81, Try.ntmps81
    go_wp2_with (at_builtin; refine wpList_copyI rfl _ _ rfl ad n c l rfl rfl H.out hn ?_; intro v' w' ho hb)
    go_ret
    exact ⟨_, rfl, ho, hb⟩
set_option maxHeartbeats 1600000 in
theorem i_clonePacker (a b : Int) (r : ByteArray) (A : Option Addr) (n c : Nat) (l : List Int) (w : World) (h : RI w A n l) (hn : n ≤ 1048576) :
    Calls Try.prog 62 #[.agg #[.int .i64 a, .int .i64 b, .string r, .slice A n c]] w (MadePacker a b r n l w) := by
  have H := hide h
  clear h
  go_enter Try.func62, Try.ntmps62
  go_wp2_with fail
  have hbW : Below w.heap.size w ((w.alloc (.cells #[.int .i64 a, .int .i64 b, .string r, .slice A n c] 27)).alloc (.cells #[.int .i64 0, .int .i64 0, .string ⟨#[]⟩, .slice none 0 0] 27)) := ((Below.refl w.heap.size w).alloc (Nat.le_refl _) _).alloc (by simp) _
  have ob : Box ((w.alloc (.cells #[.int .i64 a, .int .i64 b, .string r, .slice A n c] 27)).alloc (.cells #[.int .i64 0, .int .i64 0, .string ⟨#[]⟩, .slice none 0 0] 27)) w.heap.size [.int .i64 a, .int .i64 b, .string r, .slice A n c] := by
    have := (Box.new w #[.int .i64 a, .int .i64 b, .string r, .slice A n c] 27).alloc (.cells #[.int .i64 0, .int .i64 0, .string ⟨#[]⟩, .slice none 0 0] 27)
    simpa using this
  have rb : Box ((w.alloc (.cells #[.int .i64 a, .int .i64 b, .string r, .slice A n c] 27)).alloc (.cells #[.int .i64 0, .int .i64 0, .string ⟨#[]⟩, .slice none 0 0] 27)) (w.heap.size + 1) [.int .i64 0, .int .i64 0, .string ⟨#[]⟩, .slice none 0 0] := by
    have := Box.new (w.alloc (.cells #[.int .i64 a, .int .i64 b, .string r, .slice A n c] 27)) #[.int .i64 0, .int .i64 0, .string ⟨#[]⟩, .slice none 0 0] 27
    simpa using this
  generalize ((w.alloc (.cells #[.int .i64 a, .int .i64 b, .string r, .slice A n c] 27)).alloc (.cells #[.int .i64 0, .int .i64 0, .string ⟨#[]⟩, .slice none 0 0] 27)) = W at *
  have HW := hide hbW
  have OB := hide ob
  have RB := hide rb
  clear hbW ob rb
  refine (g_Clone _ _ _ l _ (H.out.below HW.out) hn).mono ?_
  rintro e w1 ⟨v, rfl, ho, hb⟩
  obtain ⟨A', c', rfl⟩ := own_form ho
  have hg1 : w.heap.size < W.heap.size := OB.out.1
  have hg2 : w.heap.size + 1 < W.heap.size := RB.out.1
  have ob := OB.out.below hb
  have rb := RB.out.below hb
  have HO := hide ho
  have HB := hide (HW.out.trans (hb.mono HW.out.size))
  have HWs := hide HW.out.size
  have o0 := ob.c 0 rfl
  have o1 := ob.c 1 rfl
  have o2 := ob.c 2 rfl
  have o3 := ob.c 3 rfl
  have p3 := ob.f 3 (by simp)
  have r0 := rb.c 0 rfl
  have r1 := rb.c 1 rfl
  have r2 := rb.c 2 rfl
  have r3 := rb.c 3 rfl
  have q0 := rb.f 0 (by simp)
  have q1 := rb.f 1 (by simp)
  have q2 := rb.f 2 (by simp)
  have q3 := rb.f 3 (by simp)
  have HG := hide (And.intro hg1 hg2)
  clear ob rb ho hb OB RB H HW hg1 hg2
  go_wp2_with fail
  refine bodyPost_ret (v := .agg #[.int .i64 a, .int .i64 b, .string r, .slice A' n c']) (by simp [results, Try.results62, go_sem, o0, o1, o2, o3, r0, r1, r2, r3]) rfl ⟨_, rfl, ?_, ?_⟩
  · obtain ⟨hg1, hg2⟩ := HG.out
    have hoo := HO.out
    refine own_mono ?_ HWs.out
    repeat (first | with_reducible exact hoo | with_reducible refine own_set ?_ (by first | exact hg1 | exact hg2) _)
  · have hbb := HB.out
    repeat (first | exact hbb | refine Below.drew ?_ | refine below_drewN ?_ _ | refine Below.setCell ?_ (by first | exact Nat.le_refl _ | exact Nat.le_succ _ | (simp; done) | omega | (simp; omega)) _ | refine Below.alloc ?_ (by first | exact Nat.le_refl _ | (simp; done) | omega | (simp; omega)) _)
set_option maxHeartbeats 1600000 in
theorem s_l03Copy (a b : Int) (r : ByteArray) (A : Option Addr) (n c : Nat) (l : List Int) (w : World) (h : RI w A n l) (hc : A = none → c = 0) (hn : n ≤ 1048576) :
    Calls Try.prog 58 #[.agg #[.int .i64 a, .int .i64 b, .string r, .slice A n c]] w (MadePacker a b r n l w) := by
  have H := hide h
  clear h
  go_enter Try.func58, Try.ntmps58
  have hbW : Below w.heap.size w ((w.alloc (.cells #[.int .i64 a, .int .i64 b, .string r, .slice A n c] 27)).alloc (.cells #[.int .i64 0, .int .i64 0, .string ⟨#[]⟩, .slice none 0 0] 27)) := ((Below.refl w.heap.size w).alloc (Nat.le_refl _) _).alloc (by simp) _
  have ob : Box ((w.alloc (.cells #[.int .i64 a, .int .i64 b, .string r, .slice A n c] 27)).alloc (.cells #[.int .i64 0, .int .i64 0, .string ⟨#[]⟩, .slice none 0 0] 27)) w.heap.size [.int .i64 a, .int .i64 b, .string r, .slice A n c] := by
    have := (Box.new w #[.int .i64 a, .int .i64 b, .string r, .slice A n c] 27).alloc (.cells #[.int .i64 0, .int .i64 0, .string ⟨#[]⟩, .slice none 0 0] 27)
    simpa using this
  have rb : Box ((w.alloc (.cells #[.int .i64 a, .int .i64 b, .string r, .slice A n c] 27)).alloc (.cells #[.int .i64 0, .int .i64 0, .string ⟨#[]⟩, .slice none 0 0] 27)) (w.heap.size + 1) [.int .i64 0, .int .i64 0, .string ⟨#[]⟩, .slice none 0 0] := by
    have := Box.new (w.alloc (.cells #[.int .i64 a, .int .i64 b, .string r, .slice A n c] 27)) #[.int .i64 0, .int .i64 0, .string ⟨#[]⟩, .slice none 0 0] 27
    simpa using this
  have HW := hide hbW
  have OB := hide ob
  have RB := hide rb
  have HCN := hide hc
  clear hbW ob rb hc
  go_wp2_with (at_builtin; refine wpList_copyN (wr := ((w.alloc (.cells #[.int .i64 a, .int .i64 b, .string r, .slice A n c] 27)).alloc (.cells #[.int .i64 0, .int .i64 0, .string ⟨#[]⟩, .slice none 0 0] 27))) rfl _ _ rfl (w.heap.size + 1 + 1) (by simp) A n c l rfl rfl (H.out.below HW.out) HCN.out hn ?_; intro v w1 ho hb; obtain ⟨A', c', rfl⟩ := own_form ho; have hg1 : w.heap.size < _ := OB.out.1; have hg2 : w.heap.size + 1 < _ := RB.out.1; have ob := OB.out.below hb; have rb := RB.out.below hb; have HO := hide ho; have HB := hide (HW.out.trans (hb.mono HW.out.size)); have HWs := hide HW.out.size; have o0 := ob.c 0 rfl; have o1 := ob.c 1 rfl; have o2 := ob.c 2 rfl; have o3 := ob.c 3 rfl; have p3 := ob.f 3 (by simp); have r0 := rb.c 0 rfl; have r1 := rb.c 1 rfl; have r2 := rb.c 2 rfl; have r3 := rb.c 3 rfl; have q0 := rb.f 0 (by simp); have q1 := rb.f 1 (by simp); have q2 := rb.f 2 (by simp); have q3 := rb.f 3 (by simp); have HG := hide (And.intro hg1 hg2); clear ob rb ho hb hg1 hg2)
  refine bodyPost_ret (v := .agg #[.int .i64 a, .int .i64 b, .string r, .slice A' n c']) (by simp [results, Try.results58, go_sem, o0, o1, o2, o3, r0, r1, r2, r3]) rfl ⟨_, rfl, ?_, ?_⟩
  · obtain ⟨hg1, hg2⟩ := HG.out
    have hoo := HO.out
    refine own_mono ?_ HWs.out
    repeat (first | with_reducible exact hoo | with_reducible refine own_set ?_ (by first | exact hg1 | exact hg2) _)
  · have hbb := HB.out
    repeat (first | exact hbb | refine Below.drew ?_ | refine below_drewN ?_ _ | refine Below.setCell ?_ (by first | exact Nat.le_refl _ | exact Nat.le_succ _ | (simp; done) | omega | (simp; omega)) _ | refine Below.alloc ?_ (by first | exact Nat.le_refl _ | (simp; done) | omega | (simp; omega)) _)
end Go.Proofs.Ytnelfadmcpacbaa
