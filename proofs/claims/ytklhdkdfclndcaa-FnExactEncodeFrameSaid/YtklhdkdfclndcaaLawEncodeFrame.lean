/- The program's EncodeFrame returns what the reference's returns, for all ints and bools and every string of at most 2^20 bytes (longer ones the law lets pass). -/
import Derived.Test.YtklhdkdfclndcaaRowStruct
import Derived.Test.YtklhdkdfclndcaaFrmB
namespace Go.Proofs.Ytklhdkdfclndcaa.fnExactEncodeFrame
open Go.ChangeShapes Go.WideShapes Go.ChangeAt Go.RowKit Sat
open Go.ChangeMaps (open_string shut_string)
set_option linter.unusedVariables false

theorem bc {W w1 : World} (hb : Below W.heap.size W w1) : (∀ b o, b < W.heap.size → w1.cell? ⟨b, o, none⟩ = W.cell? ⟨b, o, none⟩) ∧ (∀ b o, b < W.heap.size → w1.frozen? ⟨b, o, none⟩ = W.frozen? ⟨b, o, none⟩) :=
  ⟨fun b o h => hb.cell (p := ⟨b, o, none⟩) h, fun b o h => hb.frozen (p := ⟨b, o, none⟩) h⟩
set_option maxHeartbeats 1600000 in
theorem walk (a0x0 : Int) (l0x0 : -9223372036854775808 ≤ a0x0) (u0x0 : a0x0 ≤ 9223372036854775807) (a0x1 : Int) (l0x1 : -9223372036854775808 ≤ a0x1) (u0x1 : a0x1 ≤ 9223372036854775807) (a0x2 : Int) (l0x2 : -9223372036854775808 ≤ a0x2) (u0x2 : a0x2 ≤ 9223372036854775807) (a0x3 : ByteArray) (s0x3 : a0x3.size ≤ maxLen) (w : World) :
    Calls Try.prog 10 #[.agg #[.int .i64 a0x0, .int .i64 a0x1, .int .i64 a0x2, .string a0x3]] w fun e w' => e = .returned (.bool true) ∧ Below w.heap.size w w' := by
  unfold maxLen at s0x3
  by_cases hbig : 1048576 < a0x3.size
  · go_enter Try.func10, Try.ntmps10
    go_wp2_with fail
    refine (l_szFrame_big _ _ _ _ _ _ (by omega) (by omega) (by omega) (by omega)).mono ?_
    rintro e w1 ⟨rfl, hb⟩
    have hz1 := hb.size
    simp only [World.size_alloc] at hz1
    have hy1 : w.heap.size < w1.heap.size := by omega
    obtain ⟨hc1, hf1⟩ := bc hb
    have HB1 := hide hb
    clear hb
    go_wp2_with fail
    go_ret
    exact ⟨rfl, ((Below.refl w.heap.size w).alloc (Nat.le_refl _) _).trans (HB1.out.mono (by simp))⟩
  · have hsm : a0x3.size ≤ 1048576 := by omega
    clear hbig
    go_enter Try.func10, Try.ntmps10
    go_wp2_with fail
    refine (l_szFrame_no _ _ _ _ _ _ (by omega) (by omega) (by omega) (by omega)).mono ?_
    rintro e w1 ⟨rfl, hb⟩
    have hz1 := hb.size
    simp only [World.size_alloc] at hz1
    have hy1 : w.heap.size < w1.heap.size := by omega
    obtain ⟨hc1, hf1⟩ := bc hb
    have HB1 := hide hb
    clear hb
    go_wp2_with fail
    refine (l_toFrame _ _ _ _ _).mono ?_
    rintro e w2 ⟨rfl, hb⟩
    have hz2 := hb.size
    have hy2 : w.heap.size < w2.heap.size := by omega
    obtain ⟨hc2, hf2⟩ := bc hb
    have HB2 := hide hb
    clear hb
    go_wp2_with fail
    refine (s_EncodeFrame _ _ _ _ _ (by omega)).mono ?_
    rintro e w3 ⟨rfl, hb⟩
    have hz3 := hb.size
    have hy3 : w.heap.size < w3.heap.size := by omega
    obtain ⟨hc3, hf3⟩ := bc hb
    have HB3 := hide hb
    clear hb
    go_wp2_with fail
    refine (l_toFrame _ _ _ _ _).mono ?_
    rintro e w4 ⟨rfl, hb⟩
    have hz4 := hb.size
    have hy4 : w.heap.size < w4.heap.size := by omega
    obtain ⟨hc4, hf4⟩ := bc hb
    have HB4 := hide hb
    clear hb
    go_wp2_with fail
    refine (i_EncodeFrame _ _ _ _ _ (by omega)).mono ?_
    rintro e w5 ⟨rfl, hb⟩
    have hz5 := hb.size
    have hy5 : w.heap.size < w5.heap.size := by omega
    obtain ⟨hc5, hf5⟩ := bc hb
    have HB5 := hide hb
    clear hb
    go_wp2_with fail
    go_ret
    exact ⟨rfl, (((((((Below.refl w.heap.size w).alloc (Nat.le_refl _) _).trans (HB1.out.mono (by first | (simp; done) | omega | (simp; omega)))).trans (HB2.out.mono (by first | (simp; done) | omega | (simp; omega)))).trans (HB3.out.mono (by first | (simp; done) | omega | (simp; omega)))).trans (HB4.out.mono (by first | (simp; done) | omega | (simp; omega)))).trans (HB5.out.mono (by first | (simp; done) | omega | (simp; omega))))⟩
set_option maxRecDepth 100000 in
theorem lifted (os : Os) (started : os.Started) (H : Type) (enc : TypeId × Value → H) :
    ReturnsInHanded {} Try.checked os 10 .any (Rows.fnExactEncodeFrameSpec.pre6 enc Try.prog Try.f10 Rows.fnExactEncodeFrameRow.domain false) (Rows.fnExactEncodeFrameSpec.post enc Try.prog Try.f10 false true false false) := by
  refine returnsInHanded_of_change (C := Try.checked) own started (by kernel_rfl) Try.func10
    (ChangeSpec.witness6 (enc := enc) (C := Try.checked) false ⟨#[], #[.agg #[.int .i64 0, .int .i64 0, .int .i64 0, .string ByteArray.empty]], []⟩ 8 (by kernel_rfl) (by kernel_rfl) (by kernel_rfl) (by kernel_rfl)) ?_
  intro W base args ds gs before hval0 hW hcnd _
  have hval : ∀ (j : Nat) t v, Try.f10.params[j]? = some t → args[j]? = some v → Value.okWide Try.prog W .any base t v := hval0
  have hW' := hW
  obtain ⟨p, q, hA0, hV, rfl, hfz, hnd⟩ := hW
  have hA : DataW.TrodAll enc Try.prog W 0 (fun _ => true) true Try.f10.params.toList args.toList ds p := hA0
  rw [Try.params10] at hA hval
  obtain ⟨v0, vs0, d0, ds0, p0, q0, hargs, rfl, rfl, h0, r0⟩ := trodAll_cons hA
  obtain ⟨rfl, rfl, rfl⟩ := trodAll_nil r0
  obtain rfl : args = #[v0] := by cases args; simp_all
  obtain ⟨rfl, rfl⟩ := trodVars_none hV
  have k0 := h0
  have lt0 : ∀ x ∈ p0, x.block < W.heap.size := by obtain ⟨m, hm⟩ := k0; exact DataW.trod_lt m _ _ _ hm
  obtain ⟨v0x0, v0x1, v0x2, v0x3, y0x0, y0x1, y0x2, y0x3, n0, rfl, rfl, rfl, f0x0, f0x1, f0x2, f0x3⟩ := open_agg4_ Try.underlying35 (by kernel_rfl) (by kernel_rfl) (hval 0 35 v0 rfl rfl) h0
  obtain ⟨a0x0, rfl, b0x0⟩ := field_int Try.underlying3 f0x0
  obtain ⟨a0x1, rfl, b0x1⟩ := field_int Try.underlying3 f0x1
  obtain ⟨a0x2, rfl, b0x2⟩ := field_int Try.underlying3 f0x2
  obtain ⟨a0x3, rfl, b0x3⟩ := field_string Try.underlying9 f0x3
  clear hA0 hval0
  refine (walk a0x0 (bounds_i64 b0x0).1 (bounds_i64 b0x0).2 a0x1 (bounds_i64 b0x1).1 (bounds_i64 b0x1).2 a0x2 (bounds_i64 b0x2).1 (bounds_i64 b0x2).2 a0x3 b0x3 W).mono fun e W' ⟨he, bel⟩ => ?_
  subst he
  exact ⟨_, rfl, _, _, _, [], _, [], hW', trodAll_mk1 (shut_bool Try.underlying4 _), (trodAll_cons_mk (Below.trod laidOut (by kernel_rfl) (of_decide_eq_true (by kernel_rfl)) k0 bel lt0) trodAll_mk0), rfl, bel.frame _, fun h => by cases h⟩
theorem closed : joinedFacts Try.prog 10 Try.f10 Rows.fnExactEncodeFrameSpec Rows.fnExactEncodeFrameRow = true :=
  joined_of (by as_aux_lemma => kernel_rfl) laidOut mapsRowed_ (by as_aux_lemma => kernel_rfl) (by as_aux_lemma => kernel_rfl) (by kernel_rfl) (by as_aux_lemma => kernel_rfl) (by kernel_rfl) (by as_aux_lemma => kernel_rfl)
    (by as_aux_lemma => kernel_rfl) (by as_aux_lemma => kernel_rfl) (by as_aux_lemma => kernel_rfl) (by as_aux_lemma => kernel_rfl) (by as_aux_lemma => kernel_rfl) (by as_aux_lemma => kernel_rfl) (by as_aux_lemma => kernel_rfl) (by as_aux_lemma => kernel_rfl) (by as_aux_lemma => kernel_rfl) (by as_aux_lemma => kernel_rfl)
    (by as_aux_lemma => kernel_rfl) (by as_aux_lemma => kernel_rfl) (by as_aux_lemma => kernel_rfl) (by as_aux_lemma => kernel_rfl) (by kernel_rfl) stopsHeard_ mayEnter_ (by rw [liftsFinal_]; kernel_rfl) (by rw [make_]; kernel_rfl) (by as_aux_lemma => kernel_rfl) (by kernel_rfl) (by as_aux_lemma => kernel_rfl) (by as_aux_lemma => kernel_rfl)
theorem over : Rows.fnExactEncodeFrameRow.holds Try.pinned (OpenSpec.ofChange Rows.fnExactEncodeFrameSpec) :=
  OpenClaim.holds_of_wide 10 Try.f10 rfl rfl rfl rfl rfl rfl rfl ⟨rfl, rfl, rfl, rfl, rfl⟩ rfl rfl rfl rfl rfl (by kernel_rfl) Try.func10 closed
    (of_decide_eq_true (by kernel_rfl)) (by unfold Func.isWrapper; first | (rw [if_pos (by decide +kernel)]; kernel_rfl) | (rw [if_neg (by decide +kernel)]; exact ⟨rfl, rfl⟩))
    (fun os started H enc _ => lifted os started H enc)
theorem proved : Rows.FnExactEncodeFrameSaid := over
#print axioms proved
end Go.Proofs.Ytklhdkdfclndcaa.fnExactEncodeFrame
