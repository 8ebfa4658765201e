/- For every code of at most 2^20 bytes (longer ones the law lets pass), exactly the numbers from 0 to the greatest are parsed from their decimal text: the law FnNumbers returns true. The row takes it that the library's tables hold what their initialisers lay; the card ties that to the program's text. -/
import Derived.Test.YtaadnknpfbbjjaaDoorCardBase
import Derived.Test.YtaadnknpfbbjjaaDoorDrawC
namespace Go.Proofs.YtaadnknpfbbjjaaDoor.fnNumbers
open Go.ChangeShapes Go.WideShapes Go.ChangeAt Go.RowKit Sat
open Go.ChangeMaps (open_string shut_string)
set_option linter.unusedVariables false
set_option linter.unusedSimpArgs false

theorem empty_no {s : ByteArray} (h : 1 ≤ s.size) : s.toList.isEmpty = false := by
  rw [ByteArray.toList_eq]
  cases hl : s.data.toList with
  | nil => have : s.data.toList.length = s.size := by simp
           rw [hl] at this; simp at this; omega
  | cons a l => rfl
theorem str_list (t : List UInt8) : (str t).data.toList = t := rfl
theorem str_len (t : List UInt8) : (str t).size = t.length := rfl
theorem fmt_size (n : Int) (h : InI n) : 1 ≤ (str (fmtI n)).size ∧ (str (fmtI n)).size ≤ 100 := by
  rw [str_len]
  unfold InI at h
  unfold fmtI
  split
  · have := digs_length 64 64 n.natAbs (by have : (10 : Nat) ^ 20 ≤ 10 ^ 64 := by decide
                                           omega)
    simp only [List.length_cons]; omega
  · unfold fmtN
    split
    · simp
    · rename_i h0
      have h1 : n.toNat < 10 ^ 64 := by have : (10 : Nat) ^ 20 ≤ 10 ^ 64 := by decide
                                        omega
      have := digs_length 64 64 n.toNat h1
      have := (digs_head 64 n.toNat (by omega) h1).1
      omega
theorem parse_in (n : Int) (t : ByteArray) (w : World) (hi : InI n) (ht : str (fmtI n) = t) (h0 : 0 ≤ n) (h1 : n ≤ 1000000000) :
    Calls Tryd.prog 11 #[.string t] w fun e w' => e = .returned (.tuple #[.int .i64 n, .bool true]) ∧ w = w' := by
  subst ht
  have hu : n.natAbs < 10 ^ 20 := by unfold InI at hi; omega
  have hp := (pu_fmtI n hu).1
  rw [decide_eq_true (And.intro h0 h1)] at hp
  have hv := (pu_fmtI n hu).2 h0 h1
  have := i_ParseUint (str (fmtI n)) w (by have := (fmt_size n hi).2; omega)
  rw [str_list, hp, hv] at this
  exact this
theorem parse_out (n : Int) (t : ByteArray) (w : World) (hi : InI n) (ht : str (fmtI n) = t) (h : n < 0 ∨ 1000000000 < n) :
    Calls Tryd.prog 11 #[.string t] w fun e w' => e = .returned (.tuple #[.int .i64 0, .bool false]) ∧ w = w' := by
  subst ht
  have hu : n.natAbs < 10 ^ 20 := by unfold InI at hi; omega
  have hp := (pu_fmtI n hu).1
  rw [decide_eq_false (by omega)] at hp
  have := i_ParseUint (str (fmtI n)) w (by have := (fmt_size n hi).2; omega)
  rw [str_list, hp, puV_no hp] at this
  exact this
theorem i_Format_is (n : Int) (t : ByteArray) (w : World) (hi : InI n) (hT : str (fmtI n) = t) (ht : Tab w) :
    Calls Tryd.prog 8 #[.int .i64 n] w fun e w' => e = .returned (.string t) ∧ Below w.heap.size w w' := by
  subst hT; exact i_FormatInt n w hi.1 hi.2 ht
set_option maxHeartbeats 1600000 in
theorem walk (a : Option Addr) (len cap : Nat) (l : List UInt8) (w : World) (h : IsBytes w w.heap.size a len l) (ht : Tab w) :
    Calls Tryd.prog 4 #[.slice a len cap] w fun e w' => e = .returned (.bool true) ∧ Below w.heap.size w w' := by
  by_cases hbig : 1048576 < len
  · clear h ht
    go_enter Tryd.func4, Tryd.ntmps4
    go_wp2_with (go_at_call 9; refine (l_big_yes _ _ _ _ hbig).mono ?_; rintro e w1 ⟨rfl, rfl⟩)
    go_ret
    exact ⟨rfl, Below.refl _ _⟩
  · have hlen : len ≤ 1048576 := by omega
    have HT := hide ht
    clear hbig ht
    go_enter Tryd.func4, Tryd.ntmps4
    go_wp2_with fail
    refine (l_big_no _ _ _ _ hlen).mono ?_
    rintro e w1 ⟨rfl, rfl⟩
    go_wp2_with fail
    refine (s_DrawFormatInt _ _ _ l _ h hlen).mono ?_
    rintro e w1 ⟨⟨n, hn, rfl⟩, hb⟩
    have HI := hide hn
    have HB1 := hide hb
    have HT1 := hide (HT.out.below hb)
    have hn0 := hn.1
    have hn1 := hn.2
    clear h hb HT hn
    obtain ⟨t, hT⟩ : ∃ t, str (fmtI n) = t := ⟨_, rfl⟩
    have HE := hide hT
    have hsz : 1 ≤ t.size := by rw [← hT]; exact (fmt_size n HI.out).1
    have hne := empty_no hsz
    clear hT
    go_wp2_with fail
    refine (i_Format_is n t _ HI.out HE.out HT1.out).mono ?_
    rintro e w2 ⟨rfl, hb⟩
    have HB2 := hide (HB1.out.trans (hb.mono HB1.out.size))
    clear hb HT1 HB1
    rcases (show n < 0 ∨ (0 ≤ n ∧ n ≤ 1000000000) ∨ (0 ≤ n ∧ 1000000000 < n) by omega) with h1 | ⟨h1, h2⟩ | ⟨h1, h2⟩
    · go_wp2_with fail
      refine (parse_out n t _ HI.out HE.out (.inl h1)).mono ?_
      rintro e w3 ⟨rfl, rfl⟩
      go_wp2_with fail
      go_ret
      exact ⟨rfl, HB2.out⟩
    · go_wp2_with fail
      refine (parse_in n t _ HI.out HE.out h1 h2).mono ?_
      rintro e w3 ⟨rfl, rfl⟩
      go_wp2_with fail
      go_ret
      exact ⟨rfl, HB2.out⟩
    · go_wp2_with fail
      refine (parse_out n t _ HI.out HE.out (.inr h2)).mono ?_
      rintro e w3 ⟨rfl, rfl⟩
      go_wp2_with fail
      go_ret
      exact ⟨rfl, HB2.out⟩
theorem tab_of {W : World} (h : laidMetH Tryd.prog Rows.fnNumbersRow.laid W) : Tab W := table h
set_option maxRecDepth 100000 in
theorem contract (H : Type) (enc : TypeId × Value → H) (W : World) (base : Nat) (args : Array Value) (ds gs : List (DataW H)) (before : List MemPlace)
    (hval0 : ∀ (j : Nat) t v, Tryd.f4.params[j]? = some t → args[j]? = some v → Value.okWide Tryd.prog W .any base t v)
    (hW : DataW.Whole enc Tryd.prog Tryd.f4.params.toList Rows.fnNumbersSpec.vars false W args.toList ds gs before) (hL : laidMetH Tryd.prog Rows.fnNumbersRow.laid W) :
    Calls Tryd.prog 4 args W fun e W' => ∃ v, e = .returned v ∧ Rows.fnNumbersSpec.post enc Tryd.prog Tryd.f4 false true false false W args v W' := by
  have hval : ∀ (j : Nat) t v, Tryd.f4.params[j]? = some t → args[j]? = some v → Value.okWide Tryd.prog W .any base t v := hval0
  have hW' := hW
  obtain ⟨p, q, hA0, hV, rfl, hfz, hnd⟩ := hW
  have hA : DataW.TrodAll enc Tryd.prog W 0 (fun _ => true) true Tryd.f4.params.toList args.toList ds p := hA0
  rw [Tryd.params4] at hA hval
  obtain ⟨v0, vs0, d0, ds0, p0, q0, hargs, rfl, rfl, h0, r0⟩ := trodAll_cons hA
  obtain ⟨rfl, rfl, rfl⟩ := trodAll_nil r0
  obtain rfl : args = #[v0] := by cases args; simp_all
  obtain ⟨rfl, rfl⟩ := trodVars_none hV
  have k0 := h0
  have lt0 : ∀ x ∈ p0, x.block < W.heap.size := by obtain ⟨m, hm⟩ := k0; exact DataW.trod_lt m _ _ _ hm
  obtain ⟨a0, len0, cap0, rfl⟩ := okWide_slice Tryd.underlying24 (hval 0 24 v0 rfl rfl)
  obtain ⟨z0, w0⟩ : ∃ l, IsBytes W W.heap.size a0 len0 l := bytes_of Tryd.underlying24 Tryd.underlying5 (by kernel_rfl) h0
  clear hA0 hval0
  refine (walk a0 len0 cap0 z0 W w0 (tab_of hL)).mono fun e W' ⟨he, bel⟩ => ?_
  subst he
  exact ⟨_, rfl, _, _, _, [], _, [], hW', trodAll_mk1 (shut_bool Tryd.underlying4 _), (trodAll_cons_mk (Below.trod laidOut (by kernel_rfl) (of_decide_eq_true (by kernel_rfl)) k0 bel lt0) trodAll_mk0), rfl, bel.frame _, fun h => by cases h⟩
theorem closed : joinedFacts Tryd.prog 4 Tryd.f4 Rows.fnNumbersSpec Rows.fnNumbersRow = true :=
  joined_of (by as_aux_lemma => kernel_rfl) laidOut mapsRowed_ (by as_aux_lemma => kernel_rfl) (by as_aux_lemma => kernel_rfl) (by kernel_rfl) (by as_aux_lemma => kernel_rfl) (by kernel_rfl) (by as_aux_lemma => kernel_rfl)
    (by as_aux_lemma => kernel_rfl) (by as_aux_lemma => kernel_rfl) (by as_aux_lemma => kernel_rfl) (by as_aux_lemma => kernel_rfl) (by as_aux_lemma => kernel_rfl) (by as_aux_lemma => kernel_rfl) (by as_aux_lemma => kernel_rfl) (by as_aux_lemma => kernel_rfl) (by as_aux_lemma => kernel_rfl) (by as_aux_lemma => kernel_rfl)
    (by as_aux_lemma => kernel_rfl) (by as_aux_lemma => kernel_rfl) (by as_aux_lemma => kernel_rfl) (by as_aux_lemma => kernel_rfl) (by kernel_rfl) stopsHeard_ mayEnter_ (by rw [liftsFinal_]; kernel_rfl) (by rw [make_]; kernel_rfl) (by as_aux_lemma => kernel_rfl) (by kernel_rfl) (by as_aux_lemma => kernel_rfl) (by as_aux_lemma => kernel_rfl)
theorem laid_met (os : Os) : laidMet Tryd.prog Rows.fnNumbersRow.laid ((laidWorld os).forCall (fun _ _ => 0) ⟨#[], #[.slice none 0 0], []⟩).memory := laidMet_of_run' 8 (by kernel_rfl) (by kernel_rfl)
theorem reads (os : Os) {H : Type} (enc : TypeId × Value → H) : ∃ places, DataW.whole enc Tryd.prog ((laidWorld os).forCall (fun _ _ => 0) ⟨#[], #[.slice none 0 0], []⟩).memory Tryd.f4.params.toList Rows.fnNumbersSpec.vars false (#[.slice none 0 0] : Array Value).toList 8 = some ([.nil], [], places) := ⟨[], by kernel_rfl⟩
set_option maxRecDepth 100000 in
theorem lifted (os : Os) (started : os.Started) (H : Type) (enc : TypeId × Value → H) (F : Stop.Interp) :
    ReturnsInHanded {} Tryd.checked os 4 .any ((OpenSpec.ofChange Rows.fnNumbersSpec).preRow enc Tryd.prog Tryd.f4 Rows.fnNumbersRow.domain false Rows.fnNumbersRow.laid) (((OpenSpec.ofChange Rows.fnNumbersSpec).at F).post enc Tryd.prog Tryd.f4 false true false false) := by
  obtain ⟨places, hx⟩ := reads os enc
  refine returnsInHanded_of_row (C := Tryd.checked) (s := OpenSpec.ofChange Rows.fnNumbersSpec) own started (by kernel_rfl) Tryd.func4
    (witness_row_at (enc := enc) (C := Tryd.checked) false (laidWorld os) #[.slice none 0 0] rfl (by kernel_rfl) (by kernel_rfl) (by kernel_rfl)
      (OpenSpec.preRow_of_cond 8 hx (by kernel_rfl) (fun k hk => by cases hk) (by kernel_rfl) (laid_met os))) ?_
  intro W base args ds gs before hval hW _ _ _ hL _ _
  exact contract H enc W base args ds gs before hval hW hL
theorem said : Rows.FnNumbersSaid :=
  OpenClaim.holds_of_cond 4 Tryd.f4 rfl rfl rfl rfl rfl rfl rfl ⟨rfl, rfl, rfl, rfl, rfl⟩ rfl rfl rfl rfl rfl (by kernel_rfl) Tryd.func4 closed
    (of_decide_eq_true (by kernel_rfl)) (by unfold Func.isWrapper; first | (rw [if_pos (by decide +kernel)]; kernel_rfl) | (rw [if_neg (by decide +kernel)]; exact ⟨rfl, rfl⟩))
    (fun os started H enc _ F => by rw [OpenClaim.pre_eq_preRow]; exact lifted os started H enc F)
theorem plain (f : FuncId) (fn : Func) (hf : Tryd.pinned.checked.prog.funcNamed "loop.example/g03316/laws.FnNumbers" = some f) (hfn : Tryd.pinned.checked.prog.funcs[f]? = some fn) :
    false = Tryd.pinned.checked.prog.looks [] ∧ ∀ (j : Nat) t, fn.params[j]? = some t → Tryd.pinned.checked.prog.wantsStandIn t = false := by
  obtain rfl : f = 4 := Option.some.inj ((show Tryd.prog.funcNamed "loop.example/g03316/laws.FnNumbers" = some 4 by kernel_rfl).symm.trans hf) |>.symm
  obtain rfl : fn = Tryd.f4 := (Option.some.inj (Tryd.func4.symm.trans hfn)).symm
  refine ⟨by kernel_rfl, fun j t ht => ?_⟩
  rw [Tryd.params4] at ht
  obtain rfl : t = 24 := by simpa using Array.mem_of_getElem? ht
  exact (show Tryd.prog.wantsStandIn 24 = false by kernel_rfl)
theorem proved : Rows.FnNumbersCardSaid :=
  Claim7.holds_tied_plain_at .later [] _ _ _ _ said (fun _ h => by cases h) (by kernel_rfl) (fun _ h => by cases h) fnNumbers_row_tie rfl ⟨rfl, rfl⟩ (by kernel_rfl) rfl plain (by kernel_rfl)
#print axioms proved
end Go.Proofs.YtaadnknpfbbjjaaDoor.fnNumbers
