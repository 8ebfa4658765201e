/- The program's BlocksOf returns what the reference's returns, for all ints and every string of at most 2^20 bytes (longer ones the law lets pass), in memory of its own. -/
import Derived.Test.YtimkjhjdddllcaaRowBase
import Derived.Test.YtimkjhjdddllcaaBlkA
namespace Go.Proofs.Ytimkjhjdddllcaa.fnExactBlocksOf
open Go.ChangeShapes Go.WideShapes Go.ChangeAt Go.RowKit Sat
open Go.ChangeMaps (open_string shut_string)
set_option linter.unusedVariables false

set_option maxHeartbeats 1600000 in
theorem walk (a0 : ByteArray) (s0 : a0.size ≤ maxLen) (a1 : Int) (l1 : -9223372036854775808 ≤ a1) (u1 : a1 ≤ 9223372036854775807) (w : World) :
    Calls Try.prog 6 #[.string a0, .int .i64 a1] w fun e w' => e = .returned (.bool true) ∧ Below w.heap.size w w' := by
  unfold maxLen at s0
  by_cases hbig : 1048576 < a0.size
  · go_enter Try.func6, Try.ntmps6
    go_wp2_with fail
    go_ret
    exact ⟨rfl, Below.refl _ _⟩
  · have hsm : a0.size ≤ 1048576 := by omega
    clear hbig
    have hlen := bkT_len a0 a1
    go_enter Try.func6, Try.ntmps6
    go_wp2_with fail
    refine (s_BlocksOf _ _ _ (by omega)).mono ?_
    rintro e w1 ⟨v0, rfl, ho0, hb0⟩
    have O0 := hide ho0
    have B0 := hide hb0
    have M0 := hide (own_ltM ho0)
    have z0 := hb0.size
    clear ho0 hb0
    go_wp2_with fail
    refine (i_BlocksOf _ _ _ (by omega)).mono ?_
    rintro e w2 ⟨v1, rfl, ho1, hb1⟩
    have O1 := hide ho1
    have P0 := hide (own_below O0.out hb1)
    have B1 := hide (below_trans B0.out hb1)
    have z1 := hb1.size
    clear ho1 hb1 O0
    generalize hL : bkT a0 a1 = L at *
    have HL := hide hL
    clear hL
    go_wp2_with fail
    refine (l_eqStringS _ _ _ _ L _ O1.out P0.out (by omega)).mono ?_
    rintro e w3 ⟨rfl, m3, rfl⟩
    go_wp2_with fail
    refine (l_markStringS w1.heap.size L.length 1 _ (Ts L) _ (own_drewN O1.out m3) (by omega) (by omega) (by first | exact z1 | (simp; exact z1))).mono ?_
    rintro e w4 ⟨rfl, ho4, hb4⟩
    have O4 := hide ho4
    have P4 := hide (own_belowM (own_drewN P0.out m3) M0.out hb4)
    have B4 := hide (B1.out.trans ((below_undrewN hb4).mono z0))
    have z4 := hb4.size
    clear ho4 hb4 O1 P0
    go_wp2_with fail
    refine (l_heldStringS w1.heap.size L.length 1 _ _ O4.out (by omega) (by omega)).mono ?_
    rintro e w5 ⟨rfl, hb5⟩
    have O5 := hide (own_below O4.out hb5)
    have P5 := hide (own_below P4.out hb5)
    have B5 := hide (below_trans B4.out hb5)
    clear hb5 O4 P4
    have q0 : decide (((1 + L.length : Nat) : Int) < 0) = false := decide_eq_false (by omega)
    go_wp2_with fail
    refine (i_BlocksOf _ _ _ (by omega)).mono ?_
    rintro e w6 ⟨v6, rfl, ho6, hb6⟩
    rw [HL.out] at ho6
    have O6 := hide ho6
    have P6 := hide (own_below P5.out hb6)
    have G6 := hide (own_below O5.out hb6)
    have B6 := hide (below_trans B5.out hb6)
    clear ho6 hb6 O5 P5
    go_wp2_with fail
    refine (l_eqStringS _ _ _ _ L _ O6.out P6.out (by omega)).mono ?_
    rintro e w7 ⟨rfl, m7, rfl⟩
    go_wp2_with fail
    refine (l_heldStringS w1.heap.size L.length 1 _ _ (own_drewN G6.out m7) (by omega) (by omega)).mono ?_
    rintro e w8 ⟨rfl, hb8⟩
    go_wp2_with fail
    go_ret
    exact ⟨rfl, below_trans B6.out (below_undrewN hb8)⟩
set_option maxRecDepth 100000 in
theorem lifted (os : Os) (started : os.Started) (H : Type) (enc : TypeId × Value → H) :
    ReturnsInHanded {} Try.checked os 6 .any (Rows.fnExactBlocksOfSpec.pre6 enc Try.prog Try.f6 Rows.fnExactBlocksOfRow.domain false) (Rows.fnExactBlocksOfSpec.post enc Try.prog Try.f6 false true false false) := by
  refine returnsInHanded_of_change (C := Try.checked) own started (by kernel_rfl) Try.func6
    (ChangeSpec.witness6 (enc := enc) (C := Try.checked) false ⟨#[], #[.string ByteArray.empty, .int .i64 0], []⟩ 8 (by kernel_rfl) (by kernel_rfl) (by kernel_rfl) (by kernel_rfl)) ?_
  intro W base args ds gs before hval0 hW hcnd _
  have hval : ∀ (j : Nat) t v, Try.f6.params[j]? = some t → args[j]? = some v → Value.okWide Try.prog W .any base t v := hval0
  have hW' := hW
  obtain ⟨p, q, hA0, hV, rfl, hfz, hnd⟩ := hW
  have hA : DataW.TrodAll enc Try.prog W 0 (fun _ => true) true Try.f6.params.toList args.toList ds p := hA0
  rw [Try.params6] at hA hval
  obtain ⟨v0, vs0, d0, ds0, p0, q0, hargs, rfl, rfl, h0, r0⟩ := trodAll_cons hA
  obtain ⟨v1, vs1, d1, ds1, p1, q1, rfl, rfl, rfl, h1, r1⟩ := trodAll_cons r0
  obtain ⟨rfl, rfl, rfl⟩ := trodAll_nil r1
  obtain rfl : args = #[v0, v1] := by cases args; simp_all
  obtain ⟨rfl, rfl⟩ := trodVars_none hV
  have k0 := h0
  have lt0 : ∀ x ∈ p0, x.block < W.heap.size := by obtain ⟨m, hm⟩ := k0; exact DataW.trod_lt m _ _ _ hm
  obtain ⟨a0, rfl, rfl, rfl, w0⟩ := open_string Try.underlying9 (hval 0 9 v0 rfl rfl) h0
  have k1 := h1
  have lt1 : ∀ x ∈ p1, x.block < W.heap.size := by obtain ⟨m, hm⟩ := k1; exact DataW.trod_lt m _ _ _ hm
  obtain ⟨a1, rfl, rfl, rfl, w1⟩ := open_int Try.underlying3 (hval 1 3 v1 rfl rfl) h1
  clear hA0 hval0
  refine (walk a0 w0 a1 (bounds_i64 w1).1 (bounds_i64 w1).2 W).mono fun e W' ⟨he, bel⟩ => ?_
  subst he
  exact ⟨_, rfl, _, _, _, [], _, [], hW', trodAll_mk1 (shut_bool Try.underlying4 _), (trodAll_cons_mk (Below.trod laidOut (by kernel_rfl) (of_decide_eq_true (by kernel_rfl)) k0 bel lt0) (trodAll_cons_mk (Below.trod laidOut (by kernel_rfl) (of_decide_eq_true (by kernel_rfl)) k1 bel lt1) trodAll_mk0)), rfl, bel.frame _, fun h => by cases h⟩
theorem closed : joinedFacts Try.prog 6 Try.f6 Rows.fnExactBlocksOfSpec Rows.fnExactBlocksOfRow = true :=
  joined_of (by as_aux_lemma => kernel_rfl) laidOut mapsRowed_ (by as_aux_lemma => kernel_rfl) (by as_aux_lemma => kernel_rfl) (by kernel_rfl) (by as_aux_lemma => kernel_rfl) (by kernel_rfl) (by as_aux_lemma => kernel_rfl)
    (by as_aux_lemma => kernel_rfl) (by as_aux_lemma => kernel_rfl) (by as_aux_lemma => kernel_rfl) (by as_aux_lemma => kernel_rfl) (by as_aux_lemma => kernel_rfl) (by as_aux_lemma => kernel_rfl) (by as_aux_lemma => kernel_rfl) (by as_aux_lemma => kernel_rfl) (by as_aux_lemma => kernel_rfl) (by as_aux_lemma => kernel_rfl)
    (by as_aux_lemma => kernel_rfl) (by as_aux_lemma => kernel_rfl) (by as_aux_lemma => kernel_rfl) (by as_aux_lemma => kernel_rfl) (by kernel_rfl) stopsHeard_ mayEnter_ (by rw [liftsFinal_]; kernel_rfl) (by rw [make_]; kernel_rfl) (by as_aux_lemma => kernel_rfl) (by kernel_rfl) (by as_aux_lemma => kernel_rfl) (by as_aux_lemma => kernel_rfl)
theorem over : Rows.fnExactBlocksOfRow.holds Try.pinned (OpenSpec.ofChange Rows.fnExactBlocksOfSpec) :=
  OpenClaim.holds_of_wide 6 Try.f6 rfl rfl rfl rfl rfl rfl rfl ⟨rfl, rfl, rfl, rfl, rfl⟩ rfl rfl rfl rfl rfl (by kernel_rfl) Try.func6 closed
    (of_decide_eq_true (by kernel_rfl)) (by unfold Func.isWrapper; first | (rw [if_pos (by decide +kernel)]; kernel_rfl) | (rw [if_neg (by decide +kernel)]; exact ⟨rfl, rfl⟩))
    (fun os started H enc _ => lifted os started H enc)
theorem proved : Rows.FnExactBlocksOfSaid := over
#print axioms proved
end Go.Proofs.Ytimkjhjdddllcaa.fnExactBlocksOf
