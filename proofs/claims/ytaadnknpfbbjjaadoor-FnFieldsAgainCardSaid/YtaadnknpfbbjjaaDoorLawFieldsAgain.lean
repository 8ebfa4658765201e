/- For every code of at most 2^20 bytes (longer ones the law lets pass), the fields of a line, joined by single spaces, have the same fields: the law FnFieldsAgain returns true. The row takes it that the library's tables hold what their initialisers lay; the card ties that to the program's text. -/
import Derived.Test.YtaadnknpfbbjjaaDoorCardBase
import Derived.Test.YtaadnknpfbbjjaaDoorDrawE
import Derived.Test.YtaadnknpfbbjjaaDoorFldA
import Derived.Deep.QuietTactic
namespace Go.Proofs.YtaadnknpfbbjjaaDoor.fnFieldsAgain
open Go.ChangeShapes Go.WideShapes Go.ChangeAt Go.RowKit Sat
open Go.ChangeMaps (open_string shut_string)
set_option linter.unusedVariables false
set_option linter.unusedSimpArgs false

theorem str_app (a b : List UInt8) : str a ++ str b = str (a ++ b) := by
  apply ByteArray.ext
  apply Array.toList_inj.1
  show (str a ++ str b).data.toList = a ++ b
  rw [ByteArray.data_append, Array.toList_append, str_data, str_data]
theorem join_snoc (fs : List (List UInt8)) (f : List UInt8) : joinSp (fs ++ [f]) = joinSp fs ++ f ++ [32] := by simp [joinSp]
theorem scan_len (l : List UInt8) : (joinSp (fScan l).1).length + (fScan l).2.length ≤ l.length := by
  rw [← List.reverse_reverse l]
  generalize l.reverse = r
  induction r with
  | nil => simp [fScan, joinSp]
  | cons c r ih =>
    rw [List.reverse_cons, fScan_snoc, List.length_append, List.length_singleton]
    unfold fStep
    split
    · split
      · simp only [List.length_nil]; omega
      · rw [join_snoc, List.length_append, List.length_append]; simp only [List.length_nil, List.length_singleton]; omega
    · rw [List.length_append]; simp only [List.length_singleton]; omega
theorem fields_len (l : List UInt8) : (joinSp (fields l)).length ≤ l.length + 1 := by
  have h := scan_len l
  unfold fields fEnd
  split
  · omega
  · rw [join_snoc, List.length_append, List.length_append]; simp only [List.length_singleton]; omega
theorem take_join (fs : List (List UInt8)) (k : Nat) (h : k < fs.length) : joinSp (fs.take (k + 1)) = joinSp (fs.take k) ++ fs.getD k [] ++ [32] := by
  have e : fs.take (k + 1) = fs.take k ++ [fs.getD k []] := by
    rw [List.take_succ_eq_append_getElem h, List.getD_eq_getElem?_getD, List.getElem?_eq_getElem h]; rfl
  rw [e, join_snoc]
theorem take_len (fs : List (List UInt8)) (k : Nat) : (joinSp (fs.take k)).length ≤ (joinSp fs).length := by
  have e : joinSp fs = joinSp (fs.take k) ++ joinSp (fs.drop k) := by
    unfold joinSp
    rw [← List.flatMap_append, List.take_append_drop]
  rw [e, List.length_append]; omega
theorem i_Split_is (s : ByteArray) (fs : List (List UInt8)) (ok : Bool) (w : World) (hs : s.size ≤ 1099511627776) (h1 : fieldsOf s.data.toList = fs) (h2 : lineOk s.data.toList = ok) :
    Calls Tryd.prog 16 #[.string s] w fun e w' => ∃ v, e = .returned (.tuple #[v, .bool ok]) ∧ w'.ownsRow w.heap.size 9 1 v fs.length (Ts fs) ∧ Below w.heap.size w w' := by
  subst h1; subst h2; exact i_SplitFields s w hs
theorem s_Split_is (s : ByteArray) (fs : List (List UInt8)) (ok : Bool) (w : World) (hs : s.size ≤ 1099511627776) (h1 : fieldsOf s.data.toList = fs) (h2 : lineOk s.data.toList = ok) :
    Calls Tryd.prog 17 #[.string s] w fun e w' => ∃ v, e = .returned (.tuple #[v, .bool ok]) ∧ w'.ownsRow w.heap.size 9 1 v fs.length (Ts fs) ∧ Below w.heap.size w w' := by
  subst h1; subst h2; exact s_SplitFields s w hs
theorem fmt3 : str (fmtI (-3)) = ⟨#[45, 51]⟩ := by decide +kernel
theorem i_Format_is (n : Int) (t : ByteArray) (w : World) (h0 : -9223372036854775808 ≤ n) (h1 : n ≤ 9223372036854775807) (hT : str (fmtI n) = t) (ht : Tab w) :
    Calls Tryd.prog 8 #[.int .i64 n] w fun e w' => e = .returned (.string t) ∧ Below w.heap.size w w' := by
  subst hT; exact i_FormatInt n w h0 h1 ht
set_option maxHeartbeats 800000 in
theorem l_sameTexts (B1 B2 : Nat) (v1 v2 : Value) (l : List (List UInt8)) (w : World) (h1 : w.ownsRow B1 9 1 v1 l.length (Ts l)) (h2 : w.ownsRow B2 9 1 v2 l.length (Ts l)) (hl : l.length ≤ 1099511627776) :
    Calls Tryd.prog 18 #[v1, v2] w fun e w' => e = .returned (.bool true) ∧ ∃ m, w' = w.drewN m := by
  obtain ⟨A1, c1, rfl⟩ := own_form h1
  obtain ⟨A2, c2, rfl⟩ := own_form h2
  have H1 := hide h1
  have H2 := hide h2
  clear h1 h2
  go_enter Tryd.func18, Tryd.ntmps18
  go_wp2
  go_loopw [5] (fun iv wr => ∃ k m : Nat, k ≤ l.length ∧ iv = .int .i64 k ∧ wr = w.drewN m) (fun iv _ => l.length - (intOf iv).toNat)
  case atStart => exact ⟨0, 0, Nat.zero_le _, rfl, rfl⟩
  case round =>
    obtain ⟨k, m, hk, rfl, rfl⟩ := hrel
    by_cases hlt : k < l.length
    · obtain ⟨g1, rfl, hc1, -⟩ := own_cells H1.out (by omega)
      obtain ⟨g2, rfl, hc2, -⟩ := own_cells H2.out (by omega)
      have k1 := hc1 k (by omega)
      have k2 := hc2 k (by omega)
      rw [Ts_at l k hlt] at k1 k2
      clear hc1 hc2 H1 H2
      generalize str (l.getD k []) = x at *
      go_wp2
      go_quiet (fail)
      go_wp2
      go_roundw
      case rel => exact ⟨k + 1, _, by omega, by go_num, rfl⟩
      case measure => simp [intOf]; omega
    · obtain rfl : k = l.length := by omega
      go_wp2
      go_ret
      exact ⟨rfl, _, rfl⟩
set_option maxHeartbeats 1600000 in
theorem walk (a : Option Addr) (len cap : Nat) (l : List UInt8) (w : World) (h : IsBytes w w.heap.size a len l) (ht : Tab w) :
    Calls Tryd.prog 6 #[.slice a len cap] w fun e w' => e = .returned (.bool true) ∧ Below w.heap.size w w' := by
  by_cases hbig : 1048576 < len
  · clear h ht
    go_enter Tryd.func6, Tryd.ntmps6
    go_wp2_with (go_at_call 9; refine (l_big_yes _ _ _ _ hbig).mono ?_; rintro e w1 ⟨rfl, rfl⟩)
    go_ret
    exact ⟨rfl, Below.refl _ _⟩
  · have hlen : len ≤ 1048576 := by omega
    have HT := hide ht
    clear hbig ht
    go_enter Tryd.func6, Tryd.ntmps6
    go_wp2_with fail
    refine (l_big_no _ _ _ _ hlen).mono ?_
    rintro e w1 ⟨rfl, rfl⟩
    go_wp2_with fail
    refine (s_DrawSplitFields _ _ _ l _ h hlen).mono ?_
    rintro e w1 ⟨s, hs, rfl, hb⟩
    have HB1 := hide hb
    have HT1 := hide (HT.out.below hb)
    clear h hb HT
    obtain ⟨fs, hfs⟩ : ∃ fs, fieldsOf s.data.toList = fs := ⟨_, rfl⟩
    obtain ⟨ok, hok⟩ : ∃ ok, lineOk s.data.toList = ok := ⟨_, rfl⟩
    have HF := hide hfs
    have HK := hide hok
    have hle : fs.length ≤ 24 := by rw [← hfs]; exact fieldsOf_len _
    clear hfs hok
    go_wp2_with fail
    refine (i_Split_is s fs ok _ (by omega) HF.out HK.out).mono ?_
    rintro e w2 ⟨v, rfl, ho, hb⟩
    obtain ⟨A, c, rfl⟩ := own_form ho
    have HB2 := hide (HB1.out.trans (hb.mono HB1.out.size))
    have HT2 := hide (HT1.out.below hb)
    have HO := hide ho
    clear hb ho HB1 HT1
    go_wp2_with fail
    refine (s_Split_is s fs ok _ (by omega) HF.out HK.out).mono ?_
    rintro e w3 ⟨v2, rfl, ho, hb⟩
    replace HB2 := hide (HB2.out.trans (hb.mono HB2.out.size))
    replace HT2 := hide (HT2.out.below hb)
    replace HO := hide (own_below HO.out hb)
    clear hb ho
    cases ok with
    | false =>
      obtain rfl : fs = [] := by rw [← HF.out]; exact no_fields HK.out
      go_wp2_with fail
      refine (i_Format_is (-3) _ _ (by omega) (by omega) fmt3 HT2.out).mono ?_
      rintro e w4 ⟨rfl, hb⟩
      have HB4 := hide (HB2.out.trans (hb.mono HB2.out.size))
      clear hb HB2
      go_wp2_with fail
      go_ret
      exact ⟨rfl, HB4.out⟩
    | true =>
      have hfl : fs = fields s.data.toList := by
        rw [← HF.out]; unfold fieldsOf; rw [if_pos HK.out]
      have HFL := hide hfl
      have hj : (joinSp fs).length ≤ 1000000 := by
        have := fields_len s.data.toList
        have e : s.data.toList.length = s.size := by simp
        rw [hfl]; omega
      clear hfl
      go_wp2_with fail
      go_loopw [8, 9] (fun sv iv wr => ∃ k m : Nat, k ≤ fs.length ∧ sv = .string (str (joinSp (fs.take k))) ∧ iv = .int .i64 k ∧ wr = w3.drewN m) (fun _ iv _ => fs.length - (intOf iv).toNat)
      case atStart => exact ⟨0, 0, Nat.zero_le _, rfl, rfl, rfl⟩
      case round =>
        obtain ⟨k, m, hk, rfl, rfl, rfl⟩ := hrel
        by_cases hlt : k < fs.length
        · obtain ⟨g, rfl, hc, -⟩ := own_cells HO.out (by omega)
          have k1 := hc k (by omega)
          rw [Ts_at fs k hlt] at k1
          have HE := hide (take_join fs k hlt)
          have hl1 := take_len fs k
          have hl2 := take_len fs (k + 1)
          rw [HE.out, List.length_append, List.length_append] at hl2
          clear hc HO
          have z1 := str_size (joinSp (fs.take k))
          have z2 := str_size (fs.getD k [])
          have HS := hide (show str (joinSp (fs.take k)) ++ str (fs.getD k []) ++ str [32] = str (joinSp (fs.take (k + 1))) by rw [HE.out, str_app, str_app])
          generalize joinSp (fs.take k) = J at *
          generalize fs.getD k [] = f at *
          have z3 : (str J ++ str f).size = J.length + f.length := by rw [ByteArray.size_append]; omega
          have hadd1 := fun w => run_string_add_sum (P := Tryd.prog) (w := w) (str J) (str f) (by omega)
          have hadd2 := fun w => run_string_add_sum (P := Tryd.prog) (w := w) (str J ++ str f) (str [32]) (by have hq1 : (str [32]).size = 1 := rfl; omega)
          rw [show str [32] = ⟨#[32]⟩ from rfl] at hadd2
          go_wp2
          clear hadd1 hadd2
          go_roundw
          case rel => exact ⟨k + 1, _, by omega, by rw [← HS.out]; rfl, by go_num, rfl⟩
          case measure => simp [intOf]; omega
        · obtain rfl : k = fs.length := by omega
          rw [List.take_length]
          have HB3 := hide (below_drewN HB2.out m)
          have HO3 := hide (show (w3.drewN m).ownsRow w1.heap.size 9 1 (.slice A fs.length c) fs.length (Ts fs) from HO.out)
          clear HB2 HT2 HO
          have hz := str_size (joinSp fs)
          by_cases h6 : (joinSp fs).length ≤ 600
          · have hx : fieldsOf (str (joinSp fs)).data.toList = fs ∧ lineOk (str (joinSp fs)).data.toList = true := by
              have hh : lineOk (joinSp fs) = true := by rw [HFL.out]; exact lineOk_joined _ HK.out (by rw [← HFL.out]; exact h6)
              rw [str_data]
              refine ⟨?_, hh⟩
              unfold fieldsOf
              rw [if_pos hh]
              conv => rhs; rw [HFL.out]
              rw [HFL.out]; exact fields_joined _
            have HX := hide hx
            clear hx
            generalize str (joinSp fs) = J at *
            have h6' : ¬ (600 : Int) < (J.size : Int) := by omega
            go_wp2_with fail
            refine (i_Split_is J fs true _ (by omega) HX.out.1 HX.out.2).mono ?_
            rintro e w4 ⟨v4, rfl, ho, hb⟩
            obtain ⟨A4, c4, rfl⟩ := own_form ho
            have HB4 := hide (HB3.out.trans (hb.mono HB3.out.size))
            have HO4 := hide (own_below HO3.out hb)
            have HQ4 := hide ho
            clear hb ho HB3 HO3
            go_wp2_with fail
            refine (l_sameTexts _ _ _ _ fs _ HO4.out HQ4.out (by omega)).mono ?_
            rintro e w5 ⟨rfl, m5, rfl⟩
            go_wp2_with fail
            go_ret
            exact ⟨rfl, below_drewN HB4.out _⟩
          · obtain ⟨q, hq⟩ : ∃ q, fieldsOf (str (joinSp fs)).data.toList = q := ⟨_, rfl⟩
            obtain ⟨ok2, hok2⟩ : ∃ ok2, lineOk (str (joinSp fs)).data.toList = ok2 := ⟨_, rfl⟩
            have HX := hide (And.intro hq hok2)
            clear hq hok2
            generalize str (joinSp fs) = J at *
            have h6' : (600 : Int) < (J.size : Int) := by omega
            go_wp2_with fail
            refine (i_Split_is J q ok2 _ (by omega) HX.out.1 HX.out.2).mono ?_
            rintro e w4 ⟨v4, rfl, ho, hb⟩
            obtain ⟨A4, c4, rfl⟩ := own_form ho
            have HB4 := hide (HB3.out.trans (hb.mono HB3.out.size))
            clear hb ho HB3 HO3
            go_wp2_with fail
            go_ret
            exact ⟨rfl, HB4.out⟩
theorem tab_of {W : World} (h : laidMetH Tryd.prog Rows.fnFieldsAgainRow.laid W) : Tab W := table h
set_option maxRecDepth 100000 in
theorem contract (H : Type) (enc : TypeId × Value → H) (W : World) (base : Nat) (args : Array Value) (ds gs : List (DataW H)) (before : List MemPlace)
    (hval0 : ∀ (j : Nat) t v, Tryd.f6.params[j]? = some t → args[j]? = some v → Value.okWide Tryd.prog W .any base t v)
    (hW : DataW.Whole enc Tryd.prog Tryd.f6.params.toList Rows.fnFieldsAgainSpec.vars false W args.toList ds gs before) (hL : laidMetH Tryd.prog Rows.fnFieldsAgainRow.laid W) :
    Calls Tryd.prog 6 args W fun e W' => ∃ v, e = .returned v ∧ Rows.fnFieldsAgainSpec.post enc Tryd.prog Tryd.f6 false true false false W args v W' := by
  have hval : ∀ (j : Nat) t v, Tryd.f6.params[j]? = some t → args[j]? = some v → Value.okWide Tryd.prog W .any base t v := hval0
  have hW' := hW
  obtain ⟨p, q, hA0, hV, rfl, hfz, hnd⟩ := hW
  have hA : DataW.TrodAll enc Tryd.prog W 0 (fun _ => true) true Tryd.f6.params.toList args.toList ds p := hA0
  rw [Tryd.params6] at hA hval
  obtain ⟨v0, vs0, d0, ds0, p0, q0, hargs, rfl, rfl, h0, r0⟩ := trodAll_cons hA
  obtain ⟨rfl, rfl, rfl⟩ := trodAll_nil r0
  obtain rfl : args = #[v0] := by cases args; simp_all
  obtain ⟨rfl, rfl⟩ := trodVars_none hV
  have k0 := h0
  have lt0 : ∀ x ∈ p0, x.block < W.heap.size := by obtain ⟨m, hm⟩ := k0; exact DataW.trod_lt m _ _ _ hm
  obtain ⟨a0, len0, cap0, rfl⟩ := okWide_slice Tryd.underlying24 (hval 0 24 v0 rfl rfl)
  obtain ⟨z0, w0⟩ : ∃ l, IsBytes W W.heap.size a0 len0 l := bytes_of Tryd.underlying24 Tryd.underlying5 (by kernel_rfl) h0
  clear hA0 hval0
  refine (walk a0 len0 cap0 z0 W w0 (tab_of hL)).mono fun e W' ⟨he, bel⟩ => ?_
  subst he
  exact ⟨_, rfl, _, _, _, [], _, [], hW', trodAll_mk1 (shut_bool Tryd.underlying4 _), (trodAll_cons_mk (Below.trod laidOut (by kernel_rfl) (of_decide_eq_true (by kernel_rfl)) k0 bel lt0) trodAll_mk0), rfl, bel.frame _, fun h => by cases h⟩
theorem closed : joinedFacts Tryd.prog 6 Tryd.f6 Rows.fnFieldsAgainSpec Rows.fnFieldsAgainRow = true :=
  joined_of (by as_aux_lemma => kernel_rfl) laidOut mapsRowed_ (by as_aux_lemma => kernel_rfl) (by as_aux_lemma => kernel_rfl) (by kernel_rfl) (by as_aux_lemma => kernel_rfl) (by kernel_rfl) (by as_aux_lemma => kernel_rfl)
    (by as_aux_lemma => kernel_rfl) (by as_aux_lemma => kernel_rfl) (by as_aux_lemma => kernel_rfl) (by as_aux_lemma => kernel_rfl) (by as_aux_lemma => kernel_rfl) (by as_aux_lemma => kernel_rfl) (by as_aux_lemma => kernel_rfl) (by as_aux_lemma => kernel_rfl) (by as_aux_lemma => kernel_rfl) (by as_aux_lemma => kernel_rfl)
    (by as_aux_lemma => kernel_rfl) (by as_aux_lemma => kernel_rfl) (by as_aux_lemma => kernel_rfl) (by as_aux_lemma => kernel_rfl) (by kernel_rfl) stopsHeard_ mayEnter_ (by rw [liftsFinal_]; kernel_rfl) (by rw [make_]; kernel_rfl) (by as_aux_lemma => kernel_rfl) (by kernel_rfl) (by as_aux_lemma => kernel_rfl) (by as_aux_lemma => kernel_rfl)
theorem laid_met (os : Os) : laidMet Tryd.prog Rows.fnFieldsAgainRow.laid ((laidWorld os).forCall (fun _ _ => 0) ⟨#[], #[.slice none 0 0], []⟩).memory := laidMet_of_run' 8 (by kernel_rfl) (by kernel_rfl)
theorem reads (os : Os) {H : Type} (enc : TypeId × Value → H) : ∃ places, DataW.whole enc Tryd.prog ((laidWorld os).forCall (fun _ _ => 0) ⟨#[], #[.slice none 0 0], []⟩).memory Tryd.f6.params.toList Rows.fnFieldsAgainSpec.vars false (#[.slice none 0 0] : Array Value).toList 8 = some ([.nil], [], places) := ⟨[], by kernel_rfl⟩
set_option maxRecDepth 100000 in
theorem lifted (os : Os) (started : os.Started) (H : Type) (enc : TypeId × Value → H) (F : Stop.Interp) :
    ReturnsInHanded {} Tryd.checked os 6 .any ((OpenSpec.ofChange Rows.fnFieldsAgainSpec).preRow enc Tryd.prog Tryd.f6 Rows.fnFieldsAgainRow.domain false Rows.fnFieldsAgainRow.laid) (((OpenSpec.ofChange Rows.fnFieldsAgainSpec).at F).post enc Tryd.prog Tryd.f6 false true false false) := by
  obtain ⟨places, hx⟩ := reads os enc
  refine returnsInHanded_of_row (C := Tryd.checked) (s := OpenSpec.ofChange Rows.fnFieldsAgainSpec) own started (by kernel_rfl) Tryd.func6
    (witness_row_at (enc := enc) (C := Tryd.checked) false (laidWorld os) #[.slice none 0 0] rfl (by kernel_rfl) (by kernel_rfl) (by kernel_rfl)
      (OpenSpec.preRow_of_cond 8 hx (by kernel_rfl) (fun k hk => by cases hk) (by kernel_rfl) (laid_met os))) ?_
  intro W base args ds gs before hval hW _ _ _ hL _ _
  exact contract H enc W base args ds gs before hval hW hL
theorem said : Rows.FnFieldsAgainSaid :=
  OpenClaim.holds_of_cond 6 Tryd.f6 rfl rfl rfl rfl rfl rfl rfl ⟨rfl, rfl, rfl, rfl, rfl⟩ rfl rfl rfl rfl rfl (by kernel_rfl) Tryd.func6 closed
    (of_decide_eq_true (by kernel_rfl)) (by unfold Func.isWrapper; first | (rw [if_pos (by decide +kernel)]; kernel_rfl) | (rw [if_neg (by decide +kernel)]; exact ⟨rfl, rfl⟩))
    (fun os started H enc _ F => by rw [OpenClaim.pre_eq_preRow]; exact lifted os started H enc F)
theorem plain (f : FuncId) (fn : Func) (hf : Tryd.pinned.checked.prog.funcNamed "loop.example/g03316/laws.FnFieldsAgain" = some f) (hfn : Tryd.pinned.checked.prog.funcs[f]? = some fn) :
    false = Tryd.pinned.checked.prog.looks [] ∧ ∀ (j : Nat) t, fn.params[j]? = some t → Tryd.pinned.checked.prog.wantsStandIn t = false := by
  obtain rfl : f = 6 := Option.some.inj ((show Tryd.prog.funcNamed "loop.example/g03316/laws.FnFieldsAgain" = some 6 by kernel_rfl).symm.trans hf) |>.symm
  obtain rfl : fn = Tryd.f6 := (Option.some.inj (Tryd.func6.symm.trans hfn)).symm
  refine ⟨by kernel_rfl, fun j t ht => ?_⟩
  rw [Tryd.params6] at ht
  obtain rfl : t = 24 := by simpa using Array.mem_of_getElem? ht
  exact (show Tryd.prog.wantsStandIn 24 = false by kernel_rfl)
theorem proved : Rows.FnFieldsAgainCardSaid :=
  Claim7.holds_tied_plain_at .later [] _ _ _ _ said (fun _ h => by cases h) (by kernel_rfl) (fun _ h => by cases h) fnFieldsAgain_row_tie rfl ⟨rfl, rfl⟩ (by kernel_rfl) rfl plain (by kernel_rfl)
#print axioms proved
end Go.Proofs.YtaadnknpfbbjjaaDoor.fnFieldsAgain
