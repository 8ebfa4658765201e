/- For every code of at most 2^20 bytes (longer ones the law lets pass), random numbers are below their bound and their states follow one another: the law FnRandoms returns true. -/
import Derived.Test.YtbfgbhkmncbeiaaRowBase
import Derived.Test.YtbfgbhkmncbeiaaCodeA
namespace Go.Proofs.Ytbfgbhkmncbeiaa.fnRandoms
open Go.ChangeShapes Go.WideShapes Go.ChangeAt Go.RowKit Sat
open Go.ChangeMaps (open_string shut_string)
set_option linter.unusedVariables false

theorem randS_in {s n : Int} (h1 : 0 ≤ s) (h2 : s ≤ 65535) (h3 : 1 ≤ n) (h4 : n ≤ 4096) : randS s n = nextR s := by unfold randS; rw [if_neg (by omega)]
theorem randB_in {s n : Int} (h3 : 1 ≤ n) : 0 ≤ randB s n ∧ randB s n < n := by
  unfold randB
  split
  · omega
  · exact ⟨Int.emod_nonneg _ (by omega), Int.emod_lt_of_pos _ (by omega)⟩
set_option maxHeartbeats 1600000 in
theorem walk (a : Option Addr) (len cap : Nat) (l : List UInt8) (w : World) (h : IsBytes w w.heap.size a len l) :
    Calls Try.prog 9 #[.slice a len cap] w fun e w' => e = .returned (.bool true) ∧ Below w.heap.size w w' := by
  by_cases hbig : 1048576 < len
  · clear h
    go_enter Try.func9, Try.ntmps9
    go_wp2_with (go_at_call 25; refine (l_big_yes _ _ _ _ hbig).mono ?_; rintro e w1 ⟨rfl, rfl⟩)
    go_ret
    exact ⟨rfl, Below.refl _ _⟩
  · have hlen : len ≤ 1048576 := by omega
    clear hbig
    have H := hide h
    clear h
    have g0 := atI_lt l 0
    have g1 := atI_lt l 1
    have g2 := atI_lt l 2
    have g3 := atI_lt l 3
    have hp0 : (0 : Int) ≤ (atI l 2 : Int) * (atI l 3 : Int) := Int.mul_nonneg (by omega) (by omega)
    have hp1 : (atI l 2 : Int) * (atI l 3 : Int) ≤ 65025 := Int.mul_le_mul (a := (atI l 2 : Int)) (c := 255) (b := (atI l 3 : Int)) (d := 255) (by omega) (by omega) (by omega) (by omega)
    go_enter Try.func9, Try.ntmps9
    go_wp2_with (first | (go_at_call 25; refine (l_big_no _ _ _ _ hlen).mono ?_; rintro e w1 ⟨rfl, rfl⟩) | (go_at_call 26; refine (l_at _ _ _ l _ _ _ H.out hlen (by omega) (by omega)).mono ?_; rintro e w1 ⟨rfl, rfl⟩))
    obtain ⟨n, hn⟩ : ∃ n : Int, n = 1 + (atI l 2 : Int) * (atI l 3 : Int) % 4096 := ⟨_, rfl⟩
    have hn1 : 1 ≤ n := by omega
    have hn2 : n ≤ 4096 := by omega
    rw [← hn]
    clear hn hp0 hp1
    go_loopw [3, 5] (fun sv kv wr => ∃ (s : Int) (k m : Nat), 0 ≤ s ∧ s ≤ 65535 ∧ k ≤ 12 ∧ sv = .int .i64 s ∧ kv = .int .i64 k ∧ wr = w.drewN m) (fun _ kv _ => 12 - (intOf kv).toNat)
    case atStart => exact ⟨_, 0, 0, by omega, by omega, by omega, rfl, rfl, rfl⟩
    case round =>
      obtain ⟨s, k, m, hs0, hs1, hk, rfl, rfl, rfl⟩ := hrel
      by_cases hk12 : k < 12
      · have hr := nextR_range s
        have hr0 := hr.1
        have hr1 := hr.2
        have hb := randB_in (s := s) hn1
        have hb0 := hb.1
        have hb1 := hb.2
        have hS := randS_in hs0 hs1 hn1 hn2
        clear hr hb
        go_wp2_with (first | (go_at_call 24; refine (i_RandomBelow _ _ _).mono ?_; rintro e w1 ⟨rfl, m1, rfl⟩) | (go_at_call 15; refine (s_NextRandom _ _).mono ?_; rintro e w1 ⟨rfl, rfl⟩) | (go_at_call 16; refine (i_NextRandom _ _).mono ?_; rintro e w1 ⟨rfl, rfl⟩))
        go_roundw
        case rel => exact ⟨nextR s, k + 1, m + m1, by omega, by omega, by omega, by go_num, by go_num, by simp⟩
        case measure => simp [intOf]; omega
      · obtain rfl : k = 12 := by omega
        go_wp2
        go_ret
        exact ⟨ret_bool (by simp), below_self _ _⟩
theorem own : ownKnob Try.prog.godebug = none := by kernel_rfl
theorem laidOut : laidOutB Try.prog = true := by kernel_rfl
set_option maxRecDepth 100000 in
theorem lifted (os : Os) (started : os.Started) (H : Type) (enc : TypeId × Value → H) :
    ReturnsInHanded {} Try.checked os 9 .any (Rows.fnRandomsSpec.pre6 enc Try.prog Try.f9 Rows.fnRandomsRow.domain false) (Rows.fnRandomsSpec.post enc Try.prog Try.f9 false true false false) := by
  refine returnsInHanded_of_change (C := Try.checked) own started (by kernel_rfl) Try.func9
    (ChangeSpec.witness6 (enc := enc) (C := Try.checked) false ⟨#[], #[.slice none 0 0], []⟩ 8 (by kernel_rfl) (by kernel_rfl) (by kernel_rfl) (by kernel_rfl)) ?_
  intro W base args ds gs before hval0 hW hcnd _
  have hval : ∀ (j : Nat) t v, Try.f9.params[j]? = some t → args[j]? = some v → Value.okWide Try.prog W .any base t v := hval0
  have hW' := hW
  obtain ⟨p, q, hA0, hV, rfl, hfz, hnd⟩ := hW
  have hA : DataW.TrodAll enc Try.prog W 0 (fun _ => true) true Try.f9.params.toList args.toList ds p := hA0
  rw [Try.params9] at hA hval
  obtain ⟨v0, vs0, d0, ds0, p0, q0, hargs, rfl, rfl, h0, r0⟩ := trodAll_cons hA
  obtain ⟨rfl, rfl, rfl⟩ := trodAll_nil r0
  obtain rfl : args = #[v0] := by cases args; simp_all
  obtain ⟨rfl, rfl⟩ := trodVars_none hV
  have k0 := h0
  have lt0 : ∀ x ∈ p0, x.block < W.heap.size := by obtain ⟨m, hm⟩ := k0; exact DataW.trod_lt m _ _ _ hm
  obtain ⟨a0, len0, cap0, rfl⟩ := okWide_slice Try.underlying34 (hval 0 34 v0 rfl rfl)
  obtain ⟨z0, w0⟩ : ∃ l, IsBytes W W.heap.size a0 len0 l := bytes_of Try.underlying34 Try.underlying5 (by kernel_rfl) h0
  clear hA0 hval0
  refine (walk a0 len0 cap0 z0 W w0).mono fun e W' ⟨he, bel⟩ => ?_
  subst he
  exact ⟨_, rfl, _, _, _, [], _, [], hW', trodAll_mk1 (shut_bool Try.underlying4 _), (trodAll_cons_mk (Below.trod laidOut (by kernel_rfl) (of_decide_eq_true (by kernel_rfl)) k0 bel lt0) trodAll_mk0), rfl, bel.frame _, fun h => by cases h⟩
theorem over : Rows.fnRandomsRow.holds Try.pinned (OpenSpec.ofChange Rows.fnRandomsSpec) :=
  OpenClaim.holds_of_wide 9 Try.f9 rfl rfl rfl rfl rfl rfl rfl ⟨rfl, rfl, rfl, rfl, rfl⟩ rfl rfl rfl rfl rfl (by kernel_rfl) Try.func9 (by kernel_rfl)
    (of_decide_eq_true (by kernel_rfl)) (by unfold Func.isWrapper; first | (rw [if_pos (by decide +kernel)]; kernel_rfl) | (rw [if_neg (by decide +kernel)]; exact ⟨rfl, rfl⟩))
    (fun os started H enc _ => lifted os started H enc)
theorem proved : Rows.FnRandomsSaid := over
#print axioms proved
end Go.Proofs.Ytbfgbhkmncbeiaa.fnRandoms
