/- For every code of at most 2^20 bytes (longer ones the law lets pass), every code word is found again with any bit changed, and with two bits changed it is noticed: the law FnCodeWords returns true. -/
import Derived.Test.YtamccecbljeieaaRowBase
import Derived.Test.YtamccecbljeieaaCodeA
import Derived.Test.YtamccecbljeieaaLinkC
import Derived.Deep.RegionWith
namespace Go.Proofs.Ytamccecbljeieaa.fnCodeWords
open Go.ChangeShapes Go.WideShapes Go.ChangeAt Go.RowKit Sat
open Go.ChangeMaps (open_string shut_string)
set_option linter.unusedVariables false

theorem quiet_left {P : Program} {f : FuncId} {args : Array Value} {w : World} {n : Nat} {v : Value}
    (h : Calls P f args (w.drewN n) fun e w' => e = .returned v ∧ w.drewN n = w') : Calls P f args (w.drewN n) fun e w'' => e = .returned v ∧ ∃ m, w'' = w.drewN m :=
  h.mono fun _ _ ⟨he, hm⟩ => ⟨he, n, hm.symm⟩
theorem dec_is (v a b : Int) (w : World) (ha : decA v = a) (hb : decK v = b) :
    Calls Try.prog 36 #[.int .i64 v] w fun e w' => e = .returned (.tuple #[.int .i64 a, .int .i64 b]) ∧ w = w' := by
  subst ha; subst hb; exact i_DecodeNibble v w
theorem ones_is (v a : Int) (w : World) (ha : onesI v = a) :
    Calls Try.prog 37 #[.int .i64 v] w fun e w' => e = .returned (.int .i64 a) ∧ w = w' := by
  subst ha; exact i_CountOnes v w
theorem flip1 : ∀ n : Nat, n < 16 → ∀ i : Nat, i < 8 → decA (bits .xor .i64 (encN n : Int) (wrap64 (2 ^ i))) = (n : Int) ∧ decK (bits .xor .i64 (encN n : Int) (wrap64 (2 ^ i))) = 1 := by decide +kernel
theorem flip0 : ∀ n : Nat, n < 16 → decA (encN n : Int) = (n : Int) ∧ decK (encN n : Int) = 0 := by decide +kernel
theorem flipS : ∀ n : Nat, n < 16 → ∀ i : Nat, i < 8 → decA (bits .xor .i64 (bits .xor .i64 (encN n : Int) (wrap64 (2 ^ i))) (wrap64 (2 ^ i))) = (n : Int) ∧ decK (bits .xor .i64 (bits .xor .i64 (encN n : Int) (wrap64 (2 ^ i))) (wrap64 (2 ^ i))) = 0 := by decide +kernel
theorem flip2 : ∀ n : Nat, n < 16 → ∀ i : Nat, i < 8 → ∀ k : Nat, k < 8 → i ≠ k → decA (bits .xor .i64 (bits .xor .i64 (encN n : Int) (wrap64 (2 ^ i))) (wrap64 (2 ^ k))) = -1 ∧ decK (bits .xor .i64 (bits .xor .i64 (encN n : Int) (wrap64 (2 ^ i))) (wrap64 (2 ^ k))) = 2 := by decide +kernel
theorem even : ∀ n : Nat, n < 16 → ∃ m : Nat, m ≤ 8 ∧ m % 2 = 0 ∧ onesI (encN n : Int) = (m : Int) := by
  intro n hn
  have h := encN_lt n hn
  refine ⟨ones 8 (encN n), ?_, encN_even n hn, ?_⟩
  · have := ones_le 8 (encN n); exact this
  · rw [onesI_yes (by omega), ones_byte h]
set_option maxHeartbeats 1600000 in
theorem walk (a : Option Addr) (len cap : Nat) (l : List UInt8) (w : World) (h : IsBytes w w.heap.size a len l) :
    Calls Try.prog 8 #[.slice a len cap] w fun e w' => e = .returned (.bool true) ∧ Below w.heap.size w w' := by
  by_cases hbig : 1048576 < len
  · clear h
    go_enter Try.func8, Try.ntmps8
    go_wp2_with (go_at_call 24; refine (l_big_yes _ _ _ _ hbig).mono ?_; rintro e w1 ⟨rfl, rfl⟩)
    go_ret
    exact ⟨rfl, Below.refl _ _⟩
  · have hlen : len ≤ 1048576 := by omega
    clear hbig
    have H := hide h
    clear h
    have g0 := atI_lt l 0
    have g1 := atI_lt l 1
    have g2 := atI_lt l 2
    go_enter Try.func8, Try.ntmps8
    go_wp2_with (first | (go_at_call 24; refine (l_big_no _ _ _ _ hlen).mono ?_; rintro e w1 ⟨rfl, rfl⟩) | (go_at_call 28; refine (l_at _ _ _ l _ _ _ H.out hlen (by omega) (by omega)).mono ?_; rintro e w1 ⟨rfl, rfl⟩))
    obtain ⟨n, hn⟩ : ∃ n : Nat, (n : Int) = (atI l 0 : Int) % 16 := ⟨atI l 0 % 16, by omega⟩
    have hn16 : n < 16 := by omega
    rw [← hn]
    clear hn g0
    refine (i_EncodeNibble_yes n _ hn16).mono ?_
    rintro e w1 ⟨rfl, rfl⟩
    have hE := encN_lt n hn16
    go_wp2_with (go_at_call 28; refine (l_at _ _ _ l _ _ _ H.out hlen (by omega) (by omega)).mono ?_; rintro e w1 ⟨rfl, rfl⟩)
    obtain ⟨i, hi⟩ : ∃ i, atI l 1 % 8 = i := ⟨_, rfl⟩
    obtain ⟨k, hk⟩ : ∃ k, atI l 2 % 8 = k := ⟨_, rfl⟩
    have hi' : (atI l 1 : Int) % 8 = (i : Int) := by omega
    have hk' : (atI l 2 : Int) % 8 = (k : Int) := by omega
    have hi8 : i < 8 := by omega
    have hk8 : k < 8 := by omega
    rw [hi, hi', hk']
    clear hi hi' hk hk' g1 g2
    have F1 := hide (flip1 n hn16 i hi8)
    have F0 := hide (flip0 n hn16)
    have FS := hide (flipS n hn16 i hi8)
    have F2 := hide (flip2 n hn16 i hi8 k hk8)
    obtain ⟨m, hm8, hm2, hmo⟩ := even n hn16
    have HMO := hide hmo
    have hm0 : (((m : Int) % 2) == 0) = true := beq_iff_eq.2 (by omega)
    clear hmo
    refine (dec_is _ _ _ _ F1.out.1 F1.out.2).mono ?_
    rintro e w1 ⟨rfl, rfl⟩
    go_wp2_with fail
    refine (dec_is _ _ _ _ F0.out.1 F0.out.2).mono ?_
    rintro e w1 ⟨rfl, rfl⟩
    go_wp2_with fail
    by_cases hik : i = k
    · subst hik
      go_quiet ((go_at_call 36; go_show; exact quiet_left (dec_is _ _ _ _ FS.out.1 FS.out.2)))
      go_wp2_with fail
      go_ret
      exact ⟨rfl, below_self _ _⟩
    · have hne : ((i : Int) == (k : Int)) = false := beq_eq_false_iff_ne.2 (by omega)
      have F2' := hide (F2.out hik)
      clear hik
      go_quiet ((go_at_call 36; exact quiet_left (dec_is _ _ _ _ F2'.out.1 F2'.out.2)))
      go_wp2_with fail
      refine (ones_is _ _ _ HMO.out).mono ?_
      rintro e w1 ⟨rfl, rfl⟩
      go_wp2_with fail
      go_ret
      exact ⟨rfl, below_self _ _⟩
set_option maxRecDepth 100000 in
theorem lifted (os : Os) (started : os.Started) (H : Type) (enc : TypeId × Value → H) :
    ReturnsInHanded {} Try.checked os 8 .any (Rows.fnCodeWordsSpec.pre6 enc Try.prog Try.f8 Rows.fnCodeWordsRow.domain false) (Rows.fnCodeWordsSpec.post enc Try.prog Try.f8 false true false false) := by
  refine returnsInHanded_of_change (C := Try.checked) own started (by kernel_rfl) Try.func8
    (ChangeSpec.witness6 (enc := enc) (C := Try.checked) false ⟨#[], #[.slice none 0 0], []⟩ 8 (by kernel_rfl) (by kernel_rfl) (by kernel_rfl) (by kernel_rfl)) ?_
  intro W base args ds gs before hval0 hW hcnd _
  have hval : ∀ (j : Nat) t v, Try.f8.params[j]? = some t → args[j]? = some v → Value.okWide Try.prog W .any base t v := hval0
  have hW' := hW
  obtain ⟨p, q, hA0, hV, rfl, hfz, hnd⟩ := hW
  have hA : DataW.TrodAll enc Try.prog W 0 (fun _ => true) true Try.f8.params.toList args.toList ds p := hA0
  rw [Try.params8] at hA hval
  obtain ⟨v0, vs0, d0, ds0, p0, q0, hargs, rfl, rfl, h0, r0⟩ := trodAll_cons hA
  obtain ⟨rfl, rfl, rfl⟩ := trodAll_nil r0
  obtain rfl : args = #[v0] := by cases args; simp_all
  obtain ⟨rfl, rfl⟩ := trodVars_none hV
  have k0 := h0
  have lt0 : ∀ x ∈ p0, x.block < W.heap.size := by obtain ⟨m, hm⟩ := k0; exact DataW.trod_lt m _ _ _ hm
  obtain ⟨a0, len0, cap0, rfl⟩ := okWide_slice Try.underlying24 (hval 0 24 v0 rfl rfl)
  obtain ⟨z0, w0⟩ : ∃ l, IsBytes W W.heap.size a0 len0 l := bytes_of Try.underlying24 Try.underlying5 (by kernel_rfl) h0
  clear hA0 hval0
  refine (walk a0 len0 cap0 z0 W w0).mono fun e W' ⟨he, bel⟩ => ?_
  subst he
  exact ⟨_, rfl, _, _, _, [], _, [], hW', trodAll_mk1 (shut_bool Try.underlying4 _), (trodAll_cons_mk (Below.trod laidOut (by kernel_rfl) (of_decide_eq_true (by kernel_rfl)) k0 bel lt0) trodAll_mk0), rfl, bel.frame _, fun h => by cases h⟩
theorem closed : joinedFacts Try.prog 8 Try.f8 Rows.fnCodeWordsSpec Rows.fnCodeWordsRow = true :=
  joined_of (by as_aux_lemma => kernel_rfl) laidOut mapsRowed_ (by as_aux_lemma => kernel_rfl) (by as_aux_lemma => kernel_rfl) (by kernel_rfl) (by as_aux_lemma => kernel_rfl) (by kernel_rfl) (by as_aux_lemma => kernel_rfl)
    (by as_aux_lemma => kernel_rfl) (by as_aux_lemma => kernel_rfl) (by as_aux_lemma => kernel_rfl) (by as_aux_lemma => kernel_rfl) (by as_aux_lemma => kernel_rfl) (by as_aux_lemma => kernel_rfl) (by as_aux_lemma => kernel_rfl) (by as_aux_lemma => kernel_rfl) (by as_aux_lemma => kernel_rfl) (by as_aux_lemma => kernel_rfl)
    (by as_aux_lemma => kernel_rfl) (by as_aux_lemma => kernel_rfl) (by as_aux_lemma => kernel_rfl) (by as_aux_lemma => kernel_rfl) (by kernel_rfl) stopsHeard_ mayEnter_ (by rw [liftsFinal_]; kernel_rfl) (by rw [make_]; kernel_rfl) (by as_aux_lemma => kernel_rfl) (by kernel_rfl) (by as_aux_lemma => kernel_rfl) (by as_aux_lemma => kernel_rfl)
theorem over : Rows.fnCodeWordsRow.holds Try.pinned (OpenSpec.ofChange Rows.fnCodeWordsSpec) :=
  OpenClaim.holds_of_wide 8 Try.f8 rfl rfl rfl rfl rfl rfl rfl ⟨rfl, rfl, rfl, rfl, rfl⟩ rfl rfl rfl rfl rfl (by kernel_rfl) Try.func8 closed
    (of_decide_eq_true (by kernel_rfl)) (by unfold Func.isWrapper; first | (rw [if_pos (by decide +kernel)]; kernel_rfl) | (rw [if_neg (by decide +kernel)]; exact ⟨rfl, rfl⟩))
    (fun os started H enc _ => lifted os started H enc)
theorem proved : Rows.FnCodeWordsSaid := over
#print axioms proved
end Go.Proofs.Ytamccecbljeieaa.fnCodeWords
