/- The program's SendBlock returns what the reference's returns, for all ints and every string of at most 2^20 bytes (longer ones the law lets pass). -/
import Derived.Test.YtimkjhjdddllcaaRowStruct
import Derived.Test.YtimkjhjdddllcaaChnC
namespace Go.Proofs.Ytimkjhjdddllcaa.fnExactSendBlock
open Go.ChangeShapes Go.WideShapes Go.ChangeAt Go.RowKit Sat
open Go.ChangeMaps (open_string shut_string)
set_option linter.unusedVariables false

set_option maxHeartbeats 1600000 in
theorem walk (a0x0 : Int) (l0x0 : -9223372036854775808 ≤ a0x0) (u0x0 : a0x0 ≤ 9223372036854775807) (a0x1 : Int) (l0x1 : -9223372036854775808 ≤ a0x1) (u0x1 : a0x1 ≤ 9223372036854775807) (a0x2 : Int) (l0x2 : -9223372036854775808 ≤ a0x2) (u0x2 : a0x2 ≤ 9223372036854775807) (a1 : ByteArray) (s1 : a1.size ≤ maxLen) (w : World) :
    Calls Try.prog 5 #[.agg #[.int .i64 a0x0, .int .i64 a0x1, .int .i64 a0x2], .string a1] w fun e w' => e = .returned (.bool true) ∧ Below w.heap.size w w' := by
  unfold maxLen at s1
  by_cases hbig : 1048576 < a1.size
  · go_enter Try.func5, Try.ntmps5
    go_wp2_with fail
    go_ret
    exact ⟨rfl, (by repeat (first | exact Below.refl _ _ | refine Below.drew ?_ | refine Below.alloc ?_ (by first | exact Nat.le_refl _ | (simp; done) | (simp; omega)) _))⟩
  · have hsm : a1.size ≤ 1048576 := by omega
    clear hbig
    go_enter Try.func5, Try.ntmps5
    go_wp2_with fail
    refine (l_toChannel _ _ _ _).mono ?_
    rintro e w1 ⟨rfl, hb⟩
    have hz1 := hb.size
    (try simp only [World.size_alloc] at hz1)
    have hy1 : w.heap.size < w1.heap.size := by omega
    obtain ⟨hc1, hf1⟩ := bc3 hb
    have HB1 := hide hb
    clear hb
    go_wp2_with fail
    refine (s_SendBlock _ _ _ _ _ (by omega)).mono ?_
    rintro e w2 ⟨rfl, hb⟩
    have hz2 := hb.size
    (try simp only [World.size_alloc] at hz2)
    have hy2 : w.heap.size < w2.heap.size := by omega
    obtain ⟨hc2, hf2⟩ := bc3 hb
    have HB2 := hide hb
    clear hb
    go_wp2_with fail
    refine (l_toChannel _ _ _ _).mono ?_
    rintro e w3 ⟨rfl, hb⟩
    have hz3 := hb.size
    (try simp only [World.size_alloc] at hz3)
    have hy3 : w.heap.size < w3.heap.size := by omega
    have hv3 : w2.heap.size < w3.heap.size := by omega
    obtain ⟨hc3, hf3⟩ := bc3 hb
    have HB3 := hide hb
    clear hb
    go_wp2_with fail
    refine (i_SendBlock _ _ _ _ _ (by omega)).mono ?_
    rintro e w4 ⟨rfl, hb⟩
    have hz4 := hb.size
    (try simp only [World.size_alloc] at hz4)
    have hy4 : w.heap.size < w4.heap.size := by omega
    have hv4 : w2.heap.size < w4.heap.size := by omega
    obtain ⟨hc4, hf4⟩ := bc3 hb
    have HB4 := hide hb
    clear hb
    go_wp2_with fail
    refine (l_eqChannel _ _ _ _).mono ?_
    rintro e w5 ⟨rfl, hb⟩
    have hz5 := hb.size
    (try simp only [World.size_alloc] at hz5)
    have hy5 : w.heap.size < w5.heap.size := by omega
    obtain ⟨hc5, hf5⟩ := bc3 hb
    have HB5 := hide hb
    clear hb
    go_wp2_with fail
    go_ret
    refine ⟨rfl, ?_⟩
    have c1 : Below w.heap.size w w1 := ((Below.refl w.heap.size w).alloc (Nat.le_refl _) _).trans (HB1.out.mono (by first | (simp; done) | omega | (simp; omega)))
    have c2 : Below w.heap.size w w2 := c1.trans (HB2.out.mono (by first | (simp; done) | omega | (simp; omega)))
    have c3 : Below w.heap.size w w3 := (c2.alloc (by omega) _).trans (HB3.out.mono (by first | (simp; done) | omega | (simp; omega)))
    have c4 : Below w.heap.size w w4 := c3.trans (HB4.out.mono (by first | (simp; done) | omega | (simp; omega)))
    have c5 : Below w.heap.size w w5 := (c4.alloc (by omega) _).trans (HB5.out.mono (by first | (simp; done) | omega | (simp; omega)))
    exact c5
set_option maxRecDepth 100000 in
theorem lifted (os : Os) (started : os.Started) (H : Type) (enc : TypeId × Value → H) :
    ReturnsInHanded {} Try.checked os 5 .any (Rows.fnExactSendBlockSpec.pre6 enc Try.prog Try.f5 Rows.fnExactSendBlockRow.domain false) (Rows.fnExactSendBlockSpec.post enc Try.prog Try.f5 false true false false) := by
  refine returnsInHanded_of_change (C := Try.checked) own started (by kernel_rfl) Try.func5
    (ChangeSpec.witness6 (enc := enc) (C := Try.checked) false ⟨#[], #[.agg #[.int .i64 0, .int .i64 0, .int .i64 0], .string ByteArray.empty], []⟩ 8 (by kernel_rfl) (by kernel_rfl) (by kernel_rfl) (by kernel_rfl)) ?_
  intro W base args ds gs before hval0 hW hcnd _
  have hval : ∀ (j : Nat) t v, Try.f5.params[j]? = some t → args[j]? = some v → Value.okWide Try.prog W .any base t v := hval0
  have hW' := hW
  obtain ⟨p, q, hA0, hV, rfl, hfz, hnd⟩ := hW
  have hA : DataW.TrodAll enc Try.prog W 0 (fun _ => true) true Try.f5.params.toList args.toList ds p := hA0
  rw [Try.params5] at hA hval
  obtain ⟨v0, vs0, d0, ds0, p0, q0, hargs, rfl, rfl, h0, r0⟩ := trodAll_cons hA
  obtain ⟨v1, vs1, d1, ds1, p1, q1, rfl, rfl, rfl, h1, r1⟩ := trodAll_cons r0
  obtain ⟨rfl, rfl, rfl⟩ := trodAll_nil r1
  obtain rfl : args = #[v0, v1] := by cases args; simp_all
  obtain ⟨rfl, rfl⟩ := trodVars_none hV
  have k0 := h0
  have lt0 : ∀ x ∈ p0, x.block < W.heap.size := by obtain ⟨m, hm⟩ := k0; exact DataW.trod_lt m _ _ _ hm
  obtain ⟨v0x0, v0x1, v0x2, y0x0, y0x1, y0x2, n0, rfl, rfl, rfl, f0x0, f0x1, f0x2⟩ := open_agg3_ Try.underlying37 (by kernel_rfl) (by kernel_rfl) (hval 0 37 v0 rfl rfl) h0
  obtain ⟨a0x0, rfl, b0x0⟩ := field_int Try.underlying3 f0x0
  obtain ⟨a0x1, rfl, b0x1⟩ := field_int Try.underlying3 f0x1
  obtain ⟨a0x2, rfl, b0x2⟩ := field_int Try.underlying3 f0x2
  have k1 := h1
  have lt1 : ∀ x ∈ p1, x.block < W.heap.size := by obtain ⟨m, hm⟩ := k1; exact DataW.trod_lt m _ _ _ hm
  obtain ⟨a1, rfl, rfl, rfl, w1⟩ := open_string Try.underlying9 (hval 1 9 v1 rfl rfl) h1
  clear hA0 hval0
  refine (walk a0x0 (bounds_i64 b0x0).1 (bounds_i64 b0x0).2 a0x1 (bounds_i64 b0x1).1 (bounds_i64 b0x1).2 a0x2 (bounds_i64 b0x2).1 (bounds_i64 b0x2).2 a1 w1 W).mono fun e W' ⟨he, bel⟩ => ?_
  subst he
  exact ⟨_, rfl, _, _, _, [], _, [], hW', trodAll_mk1 (shut_bool Try.underlying4 _), (trodAll_cons_mk (Below.trod laidOut (by kernel_rfl) (of_decide_eq_true (by kernel_rfl)) k0 bel lt0) (trodAll_cons_mk (Below.trod laidOut (by kernel_rfl) (of_decide_eq_true (by kernel_rfl)) k1 bel lt1) trodAll_mk0)), rfl, bel.frame _, fun h => by cases h⟩
theorem closed : joinedFacts Try.prog 5 Try.f5 Rows.fnExactSendBlockSpec Rows.fnExactSendBlockRow = true :=
  joined_of (by as_aux_lemma => kernel_rfl) laidOut mapsRowed_ (by as_aux_lemma => kernel_rfl) (by as_aux_lemma => kernel_rfl) (by kernel_rfl) (by as_aux_lemma => kernel_rfl) (by kernel_rfl) (by as_aux_lemma => kernel_rfl)
    (by as_aux_lemma => kernel_rfl) (by as_aux_lemma => kernel_rfl) (by as_aux_lemma => kernel_rfl) (by as_aux_lemma => kernel_rfl) (by as_aux_lemma => kernel_rfl) (by as_aux_lemma => kernel_rfl) (by as_aux_lemma => kernel_rfl) (by as_aux_lemma => kernel_rfl) (by as_aux_lemma => kernel_rfl) (by as_aux_lemma => kernel_rfl)
    (by as_aux_lemma => kernel_rfl) (by as_aux_lemma => kernel_rfl) (by as_aux_lemma => kernel_rfl) (by as_aux_lemma => kernel_rfl) (by kernel_rfl) stopsHeard_ mayEnter_ (by rw [liftsFinal_]; kernel_rfl) (by rw [make_]; kernel_rfl) (by as_aux_lemma => kernel_rfl) (by kernel_rfl) (by as_aux_lemma => kernel_rfl) (by as_aux_lemma => kernel_rfl)
theorem over : Rows.fnExactSendBlockRow.holds Try.pinned (OpenSpec.ofChange Rows.fnExactSendBlockSpec) :=
  OpenClaim.holds_of_wide 5 Try.f5 rfl rfl rfl rfl rfl rfl rfl ⟨rfl, rfl, rfl, rfl, rfl⟩ rfl rfl rfl rfl rfl (by kernel_rfl) Try.func5 closed
    (of_decide_eq_true (by kernel_rfl)) (by unfold Func.isWrapper; first | (rw [if_pos (by decide +kernel)]; kernel_rfl) | (rw [if_neg (by decide +kernel)]; exact ⟨rfl, rfl⟩))
    (fun os started H enc _ => lifted os started H enc)
theorem proved : Rows.FnExactSendBlockSaid := over
#print axioms proved
end Go.Proofs.Ytimkjhjdddllcaa.fnExactSendBlock
