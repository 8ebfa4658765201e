/- For every code of at most 2^20 bytes (longer ones the law lets pass), blocks that follow one another in a stream are all found and read, in order: the law FnStreams returns true. -/
import Derived.Test.YtimkjhjdddllcaaRowBase
import Derived.Test.YtimkjhjdddllcaaDrawB
import Derived.Test.YtimkjhjdddllcaaPlStream
namespace Go.Proofs.Ytimkjhjdddllcaa.fnStreams
open Go.ChangeShapes Go.WideShapes Go.ChangeAt Go.RowKit Sat
open Go.ChangeMaps (open_string shut_string)
set_option linter.unusedVariables false
attribute [local go_sem ↓] Go.wp_at_zero Go.wp_at_succ

theorem make_is (s : ByteArray) (t : ByteArray) (w : World) (hs : s.size ≤ 1000) (h : makeB s = t) :
    Calls Try.prog 11 #[.string s] w fun e w' => e = .returned (.string t) ∧ Below w.heap.size w w' := by
  subst h; exact i_MakeBlock s w (by omega)
set_option maxHeartbeats 800000 in
theorem l_sameTexts (B1 B2 : Nat) (v1 v2 : Value) (l : List (List UInt8)) (w : World) (h1 : w.ownsRow B1 9 1 v1 l.length (Ts l)) (h2 : w.ownsRow B2 9 1 v2 l.length (Ts l)) (hl : l.length ≤ 1099511627776) :
    Calls Try.prog 29 #[v1, v2] w fun e w' => e = .returned (.bool true) ∧ ∃ m, w' = w.drewN m := by
  obtain ⟨A1, c1, rfl⟩ := own_form h1
  obtain ⟨A2, c2, rfl⟩ := own_form h2
  have H1 := hide h1
  have H2 := hide h2
  clear h1 h2
  go_enter Try.func29, Try.ntmps29
  go_wp2
  go_loopw [5] (fun iv wr => ∃ k m : Nat, k ≤ l.length ∧ iv = .int .i64 k ∧ wr = w.drewN m) (fun iv _ => l.length - (intOf iv).toNat)
  case atStart => exact ⟨0, 0, Nat.zero_le _, rfl, rfl⟩
  case round =>
    obtain ⟨k, m, hk, rfl, rfl⟩ := hrel
    by_cases hlt : k < l.length
    · obtain ⟨g1, rfl, hc1, -⟩ := own_cells H1.out (by omega)
      obtain ⟨g2, rfl, hc2, -⟩ := own_cells H2.out (by omega)
      have k1 := hc1 k (by omega)
      have k2 := hc2 k (by omega)
      rw [Ts_at l k hlt] at k1 k2
      clear hc1 hc2 H1 H2
      generalize str (l.getD k []) = x at *
      go_wp2
      go_quiet (fail)
      go_wp2
      go_roundw
      case rel => exact ⟨k + 1, _, by omega, by go_num, rfl⟩
      case measure => simp [intOf]; omega
    · obtain rfl : k = l.length := by omega
      go_wp2
      go_ret
      exact ⟨rfl, _, rfl⟩
theorem piece_ext (t : List UInt8) (n m : Nat) (h : m * n + n ≤ t.length) : (str t).extract (m * n) (m * n + n) = str ((t.drop (m * n)).take n) := by
  rw [← str_of ((str t).extract (m * n) (m * n + n)), ext_data, str_data, show m * n + n - m * n = n by omega]
set_option maxHeartbeats 3200000 in
theorem walk (a : Option Addr) (len cap : Nat) (l : List UInt8) (w : World) (h : IsBytes w w.heap.size a len l) :
    Calls Try.prog 7 #[.slice a len cap] w fun e w' => e = .returned (.bool true) ∧ Below w.heap.size w w' := by
  by_cases hbig : 1048576 < len
  · clear h
    go_enter Try.func7, Try.ntmps7
    go_wp2_with (go_at_call 9; refine (l_big_yes _ _ _ _ hbig).mono ?_; rintro e w1 ⟨rfl, rfl⟩)
    go_ret
    exact ⟨rfl, Below.refl _ _⟩
  · have hlen : len ≤ 1048576 := by omega
    clear hbig
    have H := hide h
    clear h
    have g0 := atI_lt l 0
    go_enter Try.func7, Try.ntmps7
    go_wp2_with fail
    refine (l_big_no _ _ _ _ hlen).mono ?_
    rintro e w1 ⟨rfl, rfl⟩
    go_wp2_with fail
    refine (s_DrawBytes _ _ _ l _ H.out hlen).mono ?_
    rintro e w1 ⟨t, ht, rfl, hb⟩
    have HB := hide hb
    have H1 := hide (H.out.below hb)
    clear hb
    have htz := hide (str_size t)
    go_wp2_with fail
    refine (l_at _ _ _ l _ _ _ H1.out hlen (by omega) (by omega)).mono ?_
    rintro e w2 ⟨rfl, rfl⟩
    obtain ⟨n, hn⟩ : ∃ n : Nat, n = 1 + atI l 0 % 5 := ⟨_, rfl⟩
    have hn1 : 1 ≤ n := by omega
    have hn5 : n ≤ 5 := by omega
    have hni : (1 : Int) + ((atI l 0 : Nat) : Int) % 5 = (n : Int) := by omega
    have htsz : (str t).size < 30 := by rw [htz.out]; exact ht
    clear hn H H1
    go_wp2_with fail
    have z1 := HB.out.size
    have L0 := hide (own_mono (own_lit w1 9 1) z1)
    have B0 := hide (HB.out.alloc z1 (.cells #[] 9))
    clear hni
    go_loopw [5, 6, 7] (fun v sv kv wr => ∃ m : Nat, m * n ≤ t.length ∧ kv = .int .i64 ((m * n : Nat) : Int) ∧ sv = .string (str (streamL t n m)) ∧ wr.ownsRow w.heap.size 9 1 v (pieces t n m).length (Ts (pieces t n m)) ∧ Below w.heap.size w wr) (fun _ _ kv _ => t.length + 1 - (intOf kv).toNat)
    case atStart => exact ⟨0, by omega, by go_num, rfl, L0.out, B0.out⟩
    case round =>
      clear L0 B0 HB z1
      obtain ⟨m, hm, rfl, rfl, hown, hb⟩ := hrel
      have hsz := hb.size
      have HO := hide hown
      clear hown
      have hmm : m ≤ 29 := by have := Nat.mul_le_mul_left m hn1; omega
      have hsl := hide (streamL_length (t := t) (n := n) (m := m) hn1 (by omega) hm)
      have hs4 : (str (streamL t n m)).size ≤ 406 := by
        rw [str_size, hsl.out]
        have : m * (4 + 2 * n) ≤ 29 * 14 := Nat.mul_le_mul hmm (by omega)
        omega
      have hpl := hide (pieces_len t n m)
      by_cases hlt : m * n + n ≤ t.length
      · have hpe := hide (piece_ext t n m hlt)
        have hps := hide (pieces_succ t n m)
        have hss := hide (streamL_succ t n m)
        have hmn := hide (show (m + 1) * n = m * n + n by rw [Nat.add_mul, Nat.one_mul])
        obtain ⟨k, hk⟩ : ∃ k, k = m * n := ⟨_, rfl⟩
        rw [← hk] at hm hlt hpe hmn ⊢
        have HK := hide hk
        have hlts : k + n ≤ (str t).size := by rw [htz.out]; exact hlt
        clear hk
        go_wp2_with (at_builtin; refine wpList_appV 44 9 (.string ⟨#[]⟩) 1 16 Try.underlying44 infoS rfl (by decide) (by decide) rfl _ _ rfl w.heap.size _ (pieces t n m).length 1 (Ts (pieces t n m)) [.string (str ((t.drop (m * n)).take n))] rfl HO.out rfl ?c1 rfl ?c3 ?c4 ?c5 ?_)
        case c1 => rw [hpe.out, HK.out]
        case c3 => intro u hu; simp at hu; subst hu; rfl
        case c4 => rw [hpl.out]; omega
        case c5 => exact hsz
        · intro v' w' hown' hb'
          have HO' := hide (show w'.ownsRow w.heap.size 9 1 v' (pieces t n (m + 1)).length (Ts (pieces t n (m + 1))) by rw [hps.out, Ts_snoc, List.length_append]; exact hown')
          have HB' := hide (hb.trans hb')
          clear HO hown' hb' hb
          have hmk := hide (show makeB ((str t).extract k (k + n)) = str (makeL ((t.drop (m * n)).take n)) by rw [hpe.out, HK.out]; rfl)
          have hez : ((str t).extract k (k + n)).size ≤ 1000 := by rw [ByteArray.size_extract]; omega
          have hml := makeL_le ((t.drop (m * n)).take n)
          have hadd := fun w => run_string_add_sum (P := Try.prog) (w := w) (str (streamL t n m)) (str (makeL ((t.drop (m * n)).take n))) (by rw [str_size (makeL _)]; omega)
          rw [app_strs, ← hss.out] at hadd
          generalize str (makeL ((t.drop (m * n)).take n)) = blk at *
          generalize hSN : str (streamL t n (m + 1)) = SN at *
          generalize str (streamL t n m) = SO at *
          have HSN := hide hSN
          clear hSN hml
          go_wp2_with fail
          refine (make_is _ _ _ hez hmk.out).mono ?_
          rintro e w3 ⟨rfl, hb3⟩
          have HO3 := hide (own_below HO'.out hb3)
          have HB3 := hide (below_trans HB'.out hb3)
          clear HO' HB' hb3
          go_wp2
          go_roundw
          case rel => exact ⟨m + 1, by rw [hmn.out]; exact hlt, by rw [hmn.out]; go_num, by rw [HSN.out], HO3.out, HB3.out⟩
          case measure => simp [intOf]; omega
      · have hfo := hide (stream_found hn1 hn5 hm ht)
        obtain ⟨r1, r2⟩ := stream_read hn1 hn5 hm ht
        have R1 := hide r1
        have R2 := hide r2
        clear r1 r2
        obtain ⟨k, hk⟩ : ∃ k, k = m * n := ⟨_, rfl⟩
        rw [← hk] at hm hlt ⊢
        have HK := hide hk
        have hltn : ¬ k + n ≤ (str t).size := by rw [htz.out]; exact hlt
        clear hk
        generalize str (streamL t n m) = S at *
        go_wp2_with fail
        refine (i_BlocksOf _ _ _ (by omega)).mono ?_
        rintro e w4 ⟨v4, rfl, ho4, hb4⟩
        rw [R1.out] at ho4
        rw [R2.out]
        have G4 := hide ho4
        have O4 := hide (own_below HO.out hb4)
        have B4 := hide (below_trans hb hb4)
        clear ho4 hb4 HO hb
        go_wp2_with fail
        refine (i_FindBlocks _ _ _ (by omega)).mono ?_
        rintro e w5 ⟨v5, rfl, ho5, hb5⟩
        rw [hfo.out] at ho5
        obtain ⟨A, c, rfl⟩ := own_form ho5
        have P5 := hide ho5
        have G5 := hide (own_below G4.out hb5)
        have O5 := hide (own_below O4.out hb5)
        have B5 := hide (below_trans B4.out hb5)
        have hpm := hide (show ((List.range m).map (placeAt n)).length = m by simp)
        clear ho5 hb5 G4 O4 B4
        rw [hpm.out]
        rw [hpm.out] at P5
        go_wp2_with fail
        go_loopw [11] (fun kv wr => ∃ j q : Nat, j ≤ m ∧ kv = .int .i64 j ∧ wr = w5.drewN q) (fun kv _ => m - (intOf kv).toNat)
        case atStart => exact ⟨0, 0, Nat.zero_le _, rfl, rfl⟩
        case round =>
          obtain ⟨j, q, hj, rfl, rfl⟩ := hrel
          by_cases hjl : j < m
          · obtain ⟨g, rfl, hc, -⟩ := own_cells P5.out (by omega)
            have k1 := hc j (by omega)
            rw [Ns_at _ j (by simp; exact hjl)] at k1
            have hpa : ((List.range m).map (placeAt n)).getD j 0 = placeAt n j := by simp [hjl]
            rw [hpa] at k1
            have hpi : ((placeAt n j : Nat) : Int) = 4 + (j : Int) * (4 + 2 * (n : Int)) := by unfold placeAt; simp
            rw [hpi] at k1
            have hb1 : 0 ≤ (j : Int) * (4 + 2 * (n : Int)) := Int.mul_nonneg (by omega) (by omega)
            have hb2 : (j : Int) * (4 + 2 * (n : Int)) ≤ 29 * 14 := Int.mul_le_mul (by omega) (by omega) (by omega) (by omega)
            clear hc hpa hpi
            go_wp2_with fail
            go_roundw
            case rel => exact ⟨j + 1, _, by omega, by go_num, rfl⟩
            case measure => simp [intOf]; omega
          · obtain rfl : j = m := by omega
            obtain ⟨A2, c2, hv2⟩ := own_form O5.out
            subst hv2
            rw [hpl.out]
            go_wp2_with fail
            refine (l_sameTexts _ _ _ _ (pieces t n j) _ (own_drewN G5.out q) (by have := own_drewN O5.out q; rw [hpl.out] at this ⊢; exact this) (by rw [hpl.out]; omega)).mono ?_
            rintro e w6 ⟨rfl, q6, rfl⟩
            go_wp2_with fail
            go_ret
            exact ⟨rfl, below_drewN B5.out _⟩
set_option maxRecDepth 100000 in
theorem lifted (os : Os) (started : os.Started) (H : Type) (enc : TypeId × Value → H) :
    ReturnsInHanded {} Try.checked os 7 .any (Rows.fnStreamsSpec.pre6 enc Try.prog Try.f7 Rows.fnStreamsRow.domain false) (Rows.fnStreamsSpec.post enc Try.prog Try.f7 false true false false) := by
  refine returnsInHanded_of_change (C := Try.checked) own started (by kernel_rfl) Try.func7
    (ChangeSpec.witness6 (enc := enc) (C := Try.checked) false ⟨#[], #[.slice none 0 0], []⟩ 8 (by kernel_rfl) (by kernel_rfl) (by kernel_rfl) (by kernel_rfl)) ?_
  intro W base args ds gs before hval0 hW hcnd _
  have hval : ∀ (j : Nat) t v, Try.f7.params[j]? = some t → args[j]? = some v → Value.okWide Try.prog W .any base t v := hval0
  have hW' := hW
  obtain ⟨p, q, hA0, hV, rfl, hfz, hnd⟩ := hW
  have hA : DataW.TrodAll enc Try.prog W 0 (fun _ => true) true Try.f7.params.toList args.toList ds p := hA0
  rw [Try.params7] at hA hval
  obtain ⟨v0, vs0, d0, ds0, p0, q0, hargs, rfl, rfl, h0, r0⟩ := trodAll_cons hA
  obtain ⟨rfl, rfl, rfl⟩ := trodAll_nil r0
  obtain rfl : args = #[v0] := by cases args; simp_all
  obtain ⟨rfl, rfl⟩ := trodVars_none hV
  have k0 := h0
  have lt0 : ∀ x ∈ p0, x.block < W.heap.size := by obtain ⟨m, hm⟩ := k0; exact DataW.trod_lt m _ _ _ hm
  obtain ⟨a0, len0, cap0, rfl⟩ := okWide_slice Try.underlying22 (hval 0 22 v0 rfl rfl)
  obtain ⟨z0, w0⟩ : ∃ l, IsBytes W W.heap.size a0 len0 l := bytes_of Try.underlying22 Try.underlying5 (by kernel_rfl) h0
  clear hA0 hval0
  refine (walk a0 len0 cap0 z0 W w0).mono fun e W' ⟨he, bel⟩ => ?_
  subst he
  exact ⟨_, rfl, _, _, _, [], _, [], hW', trodAll_mk1 (shut_bool Try.underlying4 _), (trodAll_cons_mk (Below.trod laidOut (by kernel_rfl) (of_decide_eq_true (by kernel_rfl)) k0 bel lt0) trodAll_mk0), rfl, bel.frame _, fun h => by cases h⟩
theorem closed : joinedFacts Try.prog 7 Try.f7 Rows.fnStreamsSpec Rows.fnStreamsRow = true :=
  joined_of (by as_aux_lemma => kernel_rfl) laidOut mapsRowed_ (by as_aux_lemma => kernel_rfl) (by as_aux_lemma => kernel_rfl) (by kernel_rfl) (by as_aux_lemma => kernel_rfl) (by kernel_rfl) (by as_aux_lemma => kernel_rfl)
    (by as_aux_lemma => kernel_rfl) (by as_aux_lemma => kernel_rfl) (by as_aux_lemma => kernel_rfl) (by as_aux_lemma => kernel_rfl) (by as_aux_lemma => kernel_rfl) (by as_aux_lemma => kernel_rfl) (by as_aux_lemma => kernel_rfl) (by as_aux_lemma => kernel_rfl) (by as_aux_lemma => kernel_rfl) (by as_aux_lemma => kernel_rfl)
    (by as_aux_lemma => kernel_rfl) (by as_aux_lemma => kernel_rfl) (by as_aux_lemma => kernel_rfl) (by as_aux_lemma => kernel_rfl) (by kernel_rfl) stopsHeard_ mayEnter_ (by rw [liftsFinal_]; kernel_rfl) (by rw [make_]; kernel_rfl) (by as_aux_lemma => kernel_rfl) (by kernel_rfl) (by as_aux_lemma => kernel_rfl) (by as_aux_lemma => kernel_rfl)
theorem over : Rows.fnStreamsRow.holds Try.pinned (OpenSpec.ofChange Rows.fnStreamsSpec) :=
  OpenClaim.holds_of_wide 7 Try.f7 rfl rfl rfl rfl rfl rfl rfl ⟨rfl, rfl, rfl, rfl, rfl⟩ rfl rfl rfl rfl rfl (by kernel_rfl) Try.func7 closed
    (of_decide_eq_true (by kernel_rfl)) (by unfold Func.isWrapper; first | (rw [if_pos (by decide +kernel)]; kernel_rfl) | (rw [if_neg (by decide +kernel)]; exact ⟨rfl, rfl⟩))
    (fun os started H enc _ => lifted os started H enc)
theorem proved : Rows.FnStreamsSaid := over
#print axioms proved
end Go.Proofs.Ytimkjhjdddllcaa.fnStreams
