/- The program's PackerOk returns what the reference's returns and leaves the packer as it was, for all packers of at most 2^20 bytes and starts (greater ones the law lets pass). -/
import Derived.Test.YtnelfadmcpacbaaRowPack
namespace Go.Proofs.Ytnelfadmcpacbaa.fnExactPackerOk
open Go.ChangeShapes Go.WideShapes Go.ChangeAt Go.RowKit Sat
open Go.ChangeMaps (open_string shut_string)
set_option linter.unusedVariables false

set_option maxHeartbeats 1600000 in
theorem walk (a0x0 : Int) (l0x0 : -9223372036854775808 ≤ a0x0) (u0x0 : a0x0 ≤ 9223372036854775807) (a0x1 : Int) (l0x1 : -9223372036854775808 ≤ a0x1) (u0x1 : a0x1 ≤ 9223372036854775807) (a0x2 : ByteArray) (s0x2 : a0x2.size ≤ maxLen) (A : Option Addr) (n c : Nat) (l : List Int) (hn0 : n ≤ 9223372036854775807) (w : World) (h : RI w A n l) :
    Calls Try.prog 3 #[.agg #[.int .i64 a0x0, .int .i64 a0x1, .string a0x2, .slice A n c]] w fun e w' => e = .returned (.bool true) ∧ Below w.heap.size w w' := by
  unfold maxLen at s0x2
  obtain ⟨hn', h'⟩ := h
  subst hn'
  have h : RI w A l.length l := ⟨rfl, h'⟩
  have H := hide h
  clear h'
  clear h
  by_cases hbig : 1048576 < a0x2.size + l.length
  · go_enter Try.func3, Try.ntmps3
    go_wp2_with fail
    refine (l_szPacker_big _ _ _ _ _ _ _ _ (by omega) (by omega) (by omega) (by omega) (by omega)).mono ?_
    rintro e w1 ⟨rfl, hb⟩
    go_wp2_with fail
    go_ret
    exact ⟨rfl, box_below hb⟩
  · have hsm : a0x2.size + l.length ≤ 1048576 := by omega
    have hn : l.length ≤ 1048576 := by omega
    clear hbig
    go_enter Try.func3, Try.ntmps3
    go_wp2_with fail
    have hbW : Below w.heap.size w (w.alloc (.cells #[.int .i64 a0x0, .int .i64 a0x1, .string a0x2, .slice A l.length c] 24)) := (Below.refl w.heap.size w).alloc (Nat.le_refl _) _
    have bx : Box (w.alloc (.cells #[.int .i64 a0x0, .int .i64 a0x1, .string a0x2, .slice A l.length c] 24)) w.heap.size [.int .i64 a0x0, .int .i64 a0x1, .string a0x2, .slice A l.length c] := by simpa using Box.new w #[.int .i64 a0x0, .int .i64 a0x1, .string a0x2, .slice A l.length c] 24
    generalize w.alloc (.cells #[.int .i64 a0x0, .int .i64 a0x1, .string a0x2, .slice A l.length c] 24) = W at *
    have HW := hide hbW
    have BX := hide bx
    have R0 := hide (H.out.below hbW)
    clear hbW bx H
    refine (l_szPacker_no _ _ _ _ _ _ _ _ (by omega) (by omega) (by omega) (by omega)).mono ?_
    rintro e w1 ⟨rfl, hb⟩
    have B1 := hide (HW.out.trans (hb.mono HW.out.size))
    have BX1 := hide (BX.out.below hb)
    have R1 := hide (R0.out.below hb)
    clear hb R0 BX HW
    have b0 := BX1.out.c 0 rfl
    have b1 := BX1.out.c 1 rfl
    have b2 := BX1.out.c 2 rfl
    have b3 := BX1.out.c 3 rfl
    go_wp2_with fail
    refine (l_toPacker _ _ _ _ _ _ l _ R1.out hn).mono ?_
    rintro e w2 ⟨v2, rfl, ho2, hb⟩
    obtain ⟨A2, c2, rfl⟩ := own_form ho2
    have B2 := hide (below_trans B1.out hb)
    have BX2 := hide (BX1.out.below hb)
    have R2 := hide (R1.out.below hb)
    have O2 := hide ho2
    clear b0 b1 b2 b3
    clear hb ho2 R1 BX1 B1
    go_wp2_with fail
    refine (s_PackerOk _ _ _ _ _ _ l _ (RI.of_own O2.out) hn (by omega)).mono ?_
    rintro e w3 ⟨rfl, hb⟩
    have B3 := hide (below_trans B2.out hb)
    have BX3 := hide (BX2.out.below hb)
    have R3 := hide (R2.out.below hb)
    clear hb O2 R2 BX2 B2
    have b0 := BX3.out.c 0 rfl
    have b1 := BX3.out.c 1 rfl
    have b2 := BX3.out.c 2 rfl
    have b3 := BX3.out.c 3 rfl
    go_wp2_with fail
    refine (l_toPacker _ _ _ _ _ _ l _ R3.out hn).mono ?_
    rintro e w4 ⟨v4, rfl, ho4, hb⟩
    obtain ⟨A4, c4, rfl⟩ := own_form ho4
    have B4 := hide (below_trans B3.out hb)
    have BX4 := hide (BX3.out.below hb)
    have R4 := hide (R3.out.below hb)
    have O4 := hide ho4
    clear b0 b1 b2 b3
    clear hb ho4 R3 BX3 B3
    go_wp2_with fail
    have hA : Below w4.heap.size w4 (w4.alloc (.cells #[.int .i64 a0x0, .int .i64 a0x1, .string a0x2, .slice A4 l.length c4] 27)) := (Below.refl _ _).alloc (Nat.le_refl _) _
    have xb : Box (w4.alloc (.cells #[.int .i64 a0x0, .int .i64 a0x1, .string a0x2, .slice A4 l.length c4] 27)) w4.heap.size [.int .i64 a0x0, .int .i64 a0x1, .string a0x2, .slice A4 l.length c4] := by simpa using Box.new w4 #[.int .i64 a0x0, .int .i64 a0x1, .string a0x2, .slice A4 l.length c4] 27
    have B5 := hide (below_trans B4.out hA)
    have BX5 := hide (BX4.out.below hA)
    have R5 := hide (R4.out.below hA)
    have O5 := hide (own_below O4.out hA)
    have XB5 := hide xb
    clear hA xb O4 R4 BX4 B4
    generalize w4.alloc (.cells #[.int .i64 a0x0, .int .i64 a0x1, .string a0x2, .slice A4 l.length c4] 27) = W5 at *
    refine (i_PackerOk _ _ _ _ _ _ l _ (RI.of_own O5.out) hn (by omega)).mono ?_
    rintro e w6 ⟨rfl, hb⟩
    have B6 := hide (below_trans B5.out hb)
    have BX6 := hide (BX5.out.below hb)
    have R6 := hide (R5.out.below hb)
    have O6 := hide (own_below O5.out hb)
    have XB6 := hide (XB5.out.below hb)
    clear hb O5 R5 BX5 B5 XB5
    have b0 := BX6.out.c 0 rfl
    have b1 := BX6.out.c 1 rfl
    have b2 := BX6.out.c 2 rfl
    have b3 := BX6.out.c 3 rfl
    have x0 := XB6.out.c 0 rfl
    have x1 := XB6.out.c 1 rfl
    have x2 := XB6.out.c 2 rfl
    have x3 := XB6.out.c 3 rfl
    generalize pkOk a0x0 a0x1 a0x2 l = ok at *
    go_wp2_with fail
    go_region_held3 (fun w' => w'.cell? ⟨w.heap.size, 0, none⟩ = some (.int .i64 a0x0) ∧ w'.cell? ⟨w.heap.size, 1, none⟩ = some (.int .i64 a0x1) ∧ w'.cell? ⟨w.heap.size, 2, none⟩ = some (.string a0x2) ∧ w'.cell? ⟨w.heap.size, 3, none⟩ = some (.slice A l.length c) ∧ w'.cell? ⟨w4.heap.size, 0, none⟩ = some (.int .i64 a0x0) ∧ w'.cell? ⟨w4.heap.size, 1, none⟩ = some (.int .i64 a0x1) ∧ w'.cell? ⟨w4.heap.size, 2, none⟩ = some (.string a0x2) ∧ w'.cell? ⟨w4.heap.size, 3, none⟩ = some (.slice A4 l.length c4)) (first | go_keep | exact keep44 BX6.out XB6.out ‹Below w6.heap.size w6 _›) (first | (go_at_call 12; refine (l_toPacker _ _ _ _ _ _ l _ (show RI w6.drew A l.length l from R6.out) hn).mono ?_; rintro e w7 ⟨v7, rfl, ho7, hb7⟩; obtain ⟨A7, c7, rfl⟩ := own_form ho7; replace hb7 : Below w6.heap.size w6 w7 := below_undrew hb7; have O7 := hide (own_below O6.out hb7); have P7 := hide ho7; clear ho7) | (go_at_call 14; refine (l_eqPacker _ _ _ _ _ _ _ l _ O7.out P7.out hn).mono ?_; rintro e w8 ⟨rfl, hb8⟩; replace hb8 : Below w6.heap.size w6 w8 := below_trans hb7 hb8))
    all_goals
      have B8 := hide (below_trans B6.out hb8)
      clear hb7 hb8
      go_wp2_with fail
      go_ret
      exact ⟨rfl, B8.out⟩
set_option maxRecDepth 100000 in
theorem lifted (os : Os) (started : os.Started) (H : Type) (enc : TypeId × Value → H) :
    ReturnsInHanded {} Try.checked os 3 .any (Rows.fnExactPackerOkSpec.pre6 enc Try.prog Try.f3 Rows.fnExactPackerOkRow.domain false) (Rows.fnExactPackerOkSpec.post enc Try.prog Try.f3 false true false false) := by
  refine returnsInHanded_of_change (C := Try.checked) own started (by kernel_rfl) Try.func3
    (ChangeSpec.witness6 (enc := enc) (C := Try.checked) false ⟨#[], #[.agg #[.int .i64 0, .int .i64 0, .string ByteArray.empty, .slice none 0 0]], []⟩ 8 (by kernel_rfl) (by kernel_rfl) (by kernel_rfl) (by kernel_rfl)) ?_
  intro W base args ds gs before hval0 hW hcnd _
  have hval : ∀ (j : Nat) t v, Try.f3.params[j]? = some t → args[j]? = some v → Value.okWide Try.prog W .any base t v := hval0
  have hW' := hW
  obtain ⟨p, q, hA0, hV, rfl, hfz, hnd⟩ := hW
  have hA : DataW.TrodAll enc Try.prog W 0 (fun _ => true) true Try.f3.params.toList args.toList ds p := hA0
  rw [Try.params3] at hA hval
  obtain ⟨v0, vs0, d0, ds0, p0, q0, hargs, rfl, rfl, h0, r0⟩ := trodAll_cons hA
  obtain ⟨rfl, rfl, rfl⟩ := trodAll_nil r0
  obtain rfl : args = #[v0] := by cases args; simp_all
  obtain ⟨rfl, rfl⟩ := trodVars_none hV
  have k0 := h0
  have lt0 : ∀ x ∈ p0, x.block < W.heap.size := by obtain ⟨m, hm⟩ := k0; exact DataW.trod_lt m _ _ _ hm
  obtain ⟨v0x0, v0x1, v0x2, v0x3, y0x0, y0x1, y0x2, y0x3, n0, rfl, rfl, rfl, f0x0, f0x1, f0x2, f0x3⟩ := open_agg4_ Try.underlying24 (by kernel_rfl) (by kernel_rfl) (hval 0 24 v0 rfl rfl) h0
  obtain ⟨a0x0, rfl, b0x0⟩ := field_int Try.underlying3 f0x0
  obtain ⟨a0x1, rfl, b0x1⟩ := field_int Try.underlying3 f0x1
  obtain ⟨a0x2, rfl, b0x2⟩ := field_string Try.underlying9 f0x2
  obtain ⟨a0x3, n0x3, c0x3, z0x3, rfl, r0x3, m0x3⟩ := field_ints Try.underlying22 Try.underlying3 (by kernel_rfl) f0x3
  clear hA0 hval0
  refine (walk a0x0 (bounds_i64 b0x0).1 (bounds_i64 b0x0).2 a0x1 (bounds_i64 b0x1).1 (bounds_i64 b0x1).2 a0x2 b0x2 a0x3 n0x3 c0x3 z0x3 m0x3 W r0x3).mono fun e W' ⟨he, bel⟩ => ?_
  subst he
  exact ⟨_, rfl, _, _, _, [], _, [], hW', trodAll_mk1 (shut_bool Try.underlying4 _), (trodAll_cons_mk (Below.trod laidOut (by kernel_rfl) (of_decide_eq_true (by kernel_rfl)) k0 bel lt0) trodAll_mk0), rfl, bel.frame _, fun h => by cases h⟩
theorem closed : joinedFacts Try.prog 3 Try.f3 Rows.fnExactPackerOkSpec Rows.fnExactPackerOkRow = true :=
  joined_of (by as_aux_lemma => kernel_rfl) laidOut mapsRowed_ (by as_aux_lemma => kernel_rfl) (by as_aux_lemma => kernel_rfl) (by kernel_rfl) (by as_aux_lemma => kernel_rfl) (by kernel_rfl) (by as_aux_lemma => kernel_rfl)
    (by as_aux_lemma => kernel_rfl) (by as_aux_lemma => kernel_rfl) (by as_aux_lemma => kernel_rfl) (by as_aux_lemma => kernel_rfl) (by as_aux_lemma => kernel_rfl) (by as_aux_lemma => kernel_rfl) (by as_aux_lemma => kernel_rfl) (by as_aux_lemma => kernel_rfl) (by as_aux_lemma => kernel_rfl) (by as_aux_lemma => kernel_rfl)
    (by as_aux_lemma => kernel_rfl) (by as_aux_lemma => kernel_rfl) (by as_aux_lemma => kernel_rfl) (by as_aux_lemma => kernel_rfl) (by kernel_rfl) stopsHeard_ mayEnter_ (by rw [liftsFinal_]; kernel_rfl) (by rw [make_]; kernel_rfl) (by as_aux_lemma => kernel_rfl) (by kernel_rfl) (by as_aux_lemma => kernel_rfl) (by as_aux_lemma => kernel_rfl)
theorem over : Rows.fnExactPackerOkRow.holds Try.pinned (OpenSpec.ofChange Rows.fnExactPackerOkSpec) :=
  OpenClaim.holds_of_wide 3 Try.f3 rfl rfl rfl rfl rfl rfl rfl ⟨rfl, rfl, rfl, rfl, rfl⟩ rfl rfl rfl rfl rfl (by kernel_rfl) Try.func3 closed
    (of_decide_eq_true (by kernel_rfl)) (by unfold Func.isWrapper; first | (rw [if_pos (by decide +kernel)]; kernel_rfl) | (rw [if_neg (by decide +kernel)]; exact ⟨rfl, rfl⟩))
    (fun os started H enc _ => lifted os started H enc)
theorem proved : Rows.FnExactPackerOkSaid := over
#print axioms proved
end Go.Proofs.Ytnelfadmcpacbaa.fnExactPackerOk
