/- For every code of at most 2^20 bytes (longer ones the law lets pass), bits that are spread are gathered again, scrambling twice is not scrambling, and blocks can be decoded: the law FnBitsBack returns true. -/
import Derived.Test.YtamccecbljeieaaRowBase
import Derived.Test.YtamccecbljeieaaDrawB
import Derived.Test.YtamccecbljeieaaLinkF
import Derived.Test.YtamccecbljeieaaStr
namespace Go.Proofs.Ytamccecbljeieaa.fnBitsBack
open Go.ChangeShapes Go.WideShapes Go.ChangeAt Go.RowKit Sat
open Go.ChangeMaps (open_string shut_string)
set_option linter.unusedVariables false

theorem spread_is' (s t : ByteArray) (w : World) (hs : s.size ≤ 1000) (h : str (spread s.data.toList) = t) :
    Calls Try.prog 33 #[.string s] w fun e w' => e = .returned (.string t) ∧ Below w.heap.size w w' := by
  subst h; exact i_SpreadBits s w (by omega)
theorem gather_is' (s t : ByteArray) (w : World) (hs : s.size ≤ 1000) (h : str (gather s.data.toList) = t) :
    Calls Try.prog 31 #[.string s] w fun e w' => e = .returned (.string t) ∧ Below w.heap.size w w' := by
  subst h; exact i_GatherBits s w (by omega)
theorem scramble_is (s t : ByteArray) (w : World) (hs : s.size ≤ 1000) (h : scrB s = t) :
    Calls Try.prog 23 #[.string s] w fun e w' => e = .returned (.string t) ∧ Below w.heap.size w w' := by
  subst h; exact i_Scramble s w (by omega)
theorem enc_is (s t : ByteArray) (w : World) (hs : s.size ≤ 1000) (h : encB s = t) :
    Calls Try.prog 39 #[.string s] w fun e w' => e = .returned (.string t) ∧ Below w.heap.size w w' := by
  subst h; exact i_EncodeBlock s w (by omega)
theorem dec_is (s t : ByteArray) (n : Int) (w : World) (hs : s.size ≤ 1000) (h : str (decodeOut s.data.toList) = t ∧ (decodeSum s.data.toList : Int) = n ∧ decodeOk s.data.toList = true) :
    Calls Try.prog 42 #[.string s] w fun e w' => e = .returned (.tuple #[.string t, .int .i64 n, .bool true]) ∧ Below w.heap.size w w' := by
  have := i_DecodeBlock s w (by omega)
  rw [h.1, h.2.1, h.2.2] at this
  exact this
theorem ones_is (v a : Int) (w : World) (ha : onesI v = a) :
    Calls Try.prog 37 #[.int .i64 v] w fun e w' => e = .returned (.int .i64 a) ∧ w = w' := by
  subst ha; exact i_CountOnes v w
theorem quiet_left {P : Program} {f : FuncId} {args : Array Value} {w : World} {n : Nat} {v : Value}
    (h : Calls P f args (w.drewN n) fun e w' => e = .returned v ∧ w.drewN n = w') : Calls P f args (w.drewN n) fun e w'' => e = .returned v ∧ ∃ m, w'' = w.drewN m :=
  h.mono fun _ _ ⟨he, hm⟩ => ⟨he, n, hm.symm⟩
theorem quiet_add_left {P : Program} {f : FuncId} {args : Array Value} {w : World} {a n : Nat} {v : Value}
    (h : Calls P f args (w.drewN (a + n)) fun e w' => e = .returned v ∧ w.drewN (a + n) = w') :
    Calls P f args (w.drewN (a + n)) fun e w'' => e = .returned v ∧ ∃ m, w'' = w.drewN (a + m) :=
  h.mono fun _ _ ⟨he, hm⟩ => ⟨he, n, hm.symm⟩
theorem onesTo_le (l : List UInt8) (k : Nat) : onesTo l k ≤ 8 * k := by
  unfold onesTo
  induction k with
  | zero => simp [sumN]
  | succ k ih => rw [sumN]; have := ones_le 8 (byteAt l k); omega
theorem ones_at (s : ByteArray) (k : Nat) (h : k < s.size) : onesI ((s[k]'h).toNat : Int) = (ones 8 (byteAt s.data.toList k) : Int) := by
  have hb : (s[k]'h).toNat < 256 := UInt8.toNat_lt _
  rw [onesI_yes (by omega), ones_byte hb, byteAt_s s k h]
set_option maxHeartbeats 1200000 in
theorem walk (a : Option Addr) (len cap : Nat) (l : List UInt8) (w : World) (h : IsBytes w w.heap.size a len l) :
    Calls Try.prog 13 #[.slice a len cap] w fun e w' => e = .returned (.bool true) ∧ Below w.heap.size w w' := by
  by_cases hbig : 1048576 < len
  · clear h
    go_enter Try.func13, Try.ntmps13
    go_wp2_with (go_at_call 24; refine (l_big_yes _ _ _ _ hbig).mono ?_; rintro e w1 ⟨rfl, rfl⟩)
    go_ret
    exact ⟨rfl, Below.refl _ _⟩
  · have hlen : len ≤ 1048576 := by omega
    clear hbig
    have H := hide h
    clear h
    go_enter Try.func13, Try.ntmps13
    go_wp2_with fail
    refine (l_big_no _ _ _ _ hlen).mono ?_
    rintro e w1 ⟨rfl, rfl⟩
    go_wp2_with fail
    refine (s_DrawBytes _ _ _ l _ H.out hlen).mono ?_
    rintro e w1 ⟨t, ht, rfl, hb⟩
    have HB := hide hb
    clear hb H
    have hz := str_size t
    have HT := hide (spread_length t)
    have HT2 := hide (show (str (spread t)).size = (str t).size by rw [str_size, str_size, HT.out])
    have HS := hide (show str (spread (str t).data.toList) = str (spread t) from rfl)
    have HG := hide (show str (gather (str (spread t)).data.toList) = str t by rw [str_data, gather_spread])
    have HE := hide (show encB (str t) = str (encodeBlock t) by unfold encB; rw [str_size, if_pos (by omega)]; rfl)
    have HD := hide (show str (decodeOut (str (encodeBlock t)).data.toList) = str t ∧ (decodeSum (str (encodeBlock t)).data.toList : Int) = 0 ∧ decodeOk (str (encodeBlock t)).data.toList = true by
      have h := hurt_decode (same_hurt t) (by omega)
      rw [str_data, h.1, h.2.1, h.2.2, hitsTo_none]; exact ⟨rfl, rfl, rfl⟩)
    have HC1 := hide (show scrB (str t) = str (scramble t) from rfl)
    have HC2 := hide (show scrB (str (scramble t)) = str t by unfold scrB; rw [str_data, scramble_twice])
    have hez : (str (encodeBlock t)).size ≤ 1000 := by rw [str_size, encodeBlock_length]; omega
    have hcz : (str (scramble t)).size ≤ 1000 := by rw [str_size, scramble_length]; omega
    have htz : (str (spread t)).size ≤ 1000 := by rw [HT2.out]; omega
    have hsz : (str t).size ≤ 30 := by omega
    have HO := hide (show ∀ k, k ≤ (str t).size → (onesTo t k : Int) ≤ 8 * 30 ∧ (onesTo (spread t) k : Int) ≤ 8 * 30 from fun k hk => by have := onesTo_le t k; have := onesTo_le (spread t) k; omega)
    have HF := hide (show onesTo (spread t) (str t).size = onesTo t (str t).size by rw [str_size]; exact onesTo_spread t)
    have HA := hide (fun k (hk : k < (str t).size) => ones_at (str t) k hk)
    have HA2 := hide (fun k (hk : k < (str (spread t)).size) => ones_at (str (spread t)) k hk)
    clear hz
    go_wp2_with fail
    refine (spread_is' _ _ _ (by omega) HS.out).mono ?_
    rintro e w2 ⟨rfl, hb⟩
    have HB2 := hide (below_trans HB.out hb)
    clear hb
    go_wp2_with fail
    refine (enc_is _ _ _ (by omega) HE.out).mono ?_
    rintro e w3 ⟨rfl, hb⟩
    have HB3 := hide (below_trans HB2.out hb)
    clear hb
    go_wp2_with fail
    refine (dec_is _ _ _ _ hez HD.out).mono ?_
    rintro e w4 ⟨rfl, hb⟩
    have HB4 := hide (below_trans HB3.out hb)
    clear hb
    have hle : (str t).size ≤ (str (spread t)).size := by rw [HT2.out]; omega
    go_wp2_with fail
    go_loopw [8, 9] (fun ov kv wr => ∃ k m : Nat, k ≤ (str t).size ∧ kv = .int .i64 k ∧ ov = .int .i64 ((onesTo t k : Int) - (onesTo (spread t) k : Int)) ∧ wr = w4.drewN m) (fun _ kv _ => (str t).size - (intOf kv).toNat)
    case atStart => exact ⟨0, 0, Nat.zero_le _, rfl, rfl, rfl⟩
    case round =>
      obtain ⟨k, m, hk, rfl, rfl, rfl⟩ := hrel
      have hob := HO.out k hk
      have ho1 := hob.1
      have ho2 := hob.2
      clear hob
      by_cases hlt : k < (str t).size
      · have hlt2 : k < (str (spread t)).size := by omega
        have A1 := hide (HA.out k hlt)
        have A2 := hide (HA2.out k hlt2)
        have l1 := ones_le 8 (byteAt t k)
        have l2 := ones_le 8 (byteAt (spread t) k)
        have S1 := hide (show onesTo t (k + 1) = onesTo t k + ones 8 (byteAt t k) from rfl)
        have S2 := hide (show onesTo (spread t) (k + 1) = onesTo (spread t) k + ones 8 (byteAt (spread t) k) from rfl)
        have hx1 : ((str t)[k]'hlt).toNat < 256 := UInt8.toNat_lt _
        have hx2 : ((str (spread t))[k]'hlt2).toNat < 256 := UInt8.toNat_lt _
        rw [str_data] at A1 A2
        clear HO HA HA2 HS HG HE HD HC1 HC2 HF HT HT2
        go_wp2_with fail
        go_quiet (first | (go_at_call 37; exact quiet_add_left (i_CountOnes _ _)) | (go_at_call 37; exact quiet_left (i_CountOnes _ _)))
        go_wp2_with fail
        go_roundw
        case rel =>
          refine ⟨k + 1, _, by omega, by go_num, ?_, rfl⟩
          rw [S1.out, S2.out]
          rw [A1.out, A2.out]
          refine congrArg _ ?_
          unfold wrap64
          omega
        case measure => simp [intOf]; omega
      · obtain rfl : k = (str t).size := by omega
        have hz0 : (onesTo t (str t).size : Int) - (onesTo (spread t) (str t).size : Int) = 0 := by rw [HF.out]; omega
        rw [hz0]
        have hq1 : ((str (spread t)).size == (str t).size) = true := by rw [HT2.out]; simp
        clear hz0
        go_wp2_with fail
        refine (gather_is' _ _ _ htz HG.out).mono ?_
        rintro e w5 ⟨rfl, hb⟩
        have HB5 := hide hb
        clear hb
        go_wp2_with fail
        refine (scramble_is _ _ _ (by omega) HC1.out).mono ?_
        rintro e w6 ⟨rfl, hb⟩
        have HB6 := hide hb
        clear hb
        go_wp2_with fail
        refine (scramble_is _ _ _ hcz HC2.out).mono ?_
        rintro e w7 ⟨rfl, hb⟩
        have HB7 := hide hb
        clear hb
        go_wp2_with fail
        go_ret
        exact ⟨ret_bool (by first | rfl | (rw [HT2.out]; simp)), below_trans HB4.out (below_trans (show Below w4.heap.size w4 w5 from ⟨HB5.out.os, HB5.out.tape, HB5.out.output, HB5.out.size, HB5.out.block⟩) (below_trans HB6.out HB7.out))⟩
set_option maxRecDepth 100000 in
theorem lifted (os : Os) (started : os.Started) (H : Type) (enc : TypeId × Value → H) :
    ReturnsInHanded {} Try.checked os 13 .any (Rows.fnBitsBackSpec.pre6 enc Try.prog Try.f13 Rows.fnBitsBackRow.domain false) (Rows.fnBitsBackSpec.post enc Try.prog Try.f13 false true false false) := by
  refine returnsInHanded_of_change (C := Try.checked) own started (by kernel_rfl) Try.func13
    (ChangeSpec.witness6 (enc := enc) (C := Try.checked) false ⟨#[], #[.slice none 0 0], []⟩ 8 (by kernel_rfl) (by kernel_rfl) (by kernel_rfl) (by kernel_rfl)) ?_
  intro W base args ds gs before hval0 hW hcnd _
  have hval : ∀ (j : Nat) t v, Try.f13.params[j]? = some t → args[j]? = some v → Value.okWide Try.prog W .any base t v := hval0
  have hW' := hW
  obtain ⟨p, q, hA0, hV, rfl, hfz, hnd⟩ := hW
  have hA : DataW.TrodAll enc Try.prog W 0 (fun _ => true) true Try.f13.params.toList args.toList ds p := hA0
  rw [Try.params13] at hA hval
  obtain ⟨v0, vs0, d0, ds0, p0, q0, hargs, rfl, rfl, h0, r0⟩ := trodAll_cons hA
  obtain ⟨rfl, rfl, rfl⟩ := trodAll_nil r0
  obtain rfl : args = #[v0] := by cases args; simp_all
  obtain ⟨rfl, rfl⟩ := trodVars_none hV
  have k0 := h0
  have lt0 : ∀ x ∈ p0, x.block < W.heap.size := by obtain ⟨m, hm⟩ := k0; exact DataW.trod_lt m _ _ _ hm
  obtain ⟨a0, len0, cap0, rfl⟩ := okWide_slice Try.underlying24 (hval 0 24 v0 rfl rfl)
  obtain ⟨z0, w0⟩ : ∃ l, IsBytes W W.heap.size a0 len0 l := bytes_of Try.underlying24 Try.underlying5 (by kernel_rfl) h0
  clear hA0 hval0
  refine (walk a0 len0 cap0 z0 W w0).mono fun e W' ⟨he, bel⟩ => ?_
  subst he
  exact ⟨_, rfl, _, _, _, [], _, [], hW', trodAll_mk1 (shut_bool Try.underlying4 _), (trodAll_cons_mk (Below.trod laidOut (by kernel_rfl) (of_decide_eq_true (by kernel_rfl)) k0 bel lt0) trodAll_mk0), rfl, bel.frame _, fun h => by cases h⟩
theorem closed : joinedFacts Try.prog 13 Try.f13 Rows.fnBitsBackSpec Rows.fnBitsBackRow = true :=
  joined_of (by as_aux_lemma => kernel_rfl) laidOut mapsRowed_ (by as_aux_lemma => kernel_rfl) (by as_aux_lemma => kernel_rfl) (by kernel_rfl) (by as_aux_lemma => kernel_rfl) (by kernel_rfl) (by as_aux_lemma => kernel_rfl)
    (by as_aux_lemma => kernel_rfl) (by as_aux_lemma => kernel_rfl) (by as_aux_lemma => kernel_rfl) (by as_aux_lemma => kernel_rfl) (by as_aux_lemma => kernel_rfl) (by as_aux_lemma => kernel_rfl) (by as_aux_lemma => kernel_rfl) (by as_aux_lemma => kernel_rfl) (by as_aux_lemma => kernel_rfl) (by as_aux_lemma => kernel_rfl)
    (by as_aux_lemma => kernel_rfl) (by as_aux_lemma => kernel_rfl) (by as_aux_lemma => kernel_rfl) (by as_aux_lemma => kernel_rfl) (by kernel_rfl) stopsHeard_ mayEnter_ (by rw [liftsFinal_]; kernel_rfl) (by rw [make_]; kernel_rfl) (by as_aux_lemma => kernel_rfl) (by kernel_rfl) (by as_aux_lemma => kernel_rfl) (by as_aux_lemma => kernel_rfl)
theorem over : Rows.fnBitsBackRow.holds Try.pinned (OpenSpec.ofChange Rows.fnBitsBackSpec) :=
  OpenClaim.holds_of_wide 13 Try.f13 rfl rfl rfl rfl rfl rfl rfl ⟨rfl, rfl, rfl, rfl, rfl⟩ rfl rfl rfl rfl rfl (by kernel_rfl) Try.func13 closed
    (of_decide_eq_true (by kernel_rfl)) (by unfold Func.isWrapper; first | (rw [if_pos (by decide +kernel)]; kernel_rfl) | (rw [if_neg (by decide +kernel)]; exact ⟨rfl, rfl⟩))
    (fun os started H enc _ => lifted os started H enc)
theorem proved : Rows.FnBitsBackSaid := over
#print axioms proved
end Go.Proofs.Ytamccecbljeieaa.fnBitsBack
