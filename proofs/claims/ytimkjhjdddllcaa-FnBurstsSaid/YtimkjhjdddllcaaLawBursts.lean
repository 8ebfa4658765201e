/- For every code of at most 2^20 bytes (longer ones the law lets pass), a block that a burst has hit is read as it was sent: the law FnBursts returns true. -/
import Derived.Test.YtimkjhjdddllcaaRowBase
import Derived.Test.YtimkjhjdddllcaaDrawB
import Derived.Test.YtimkjhjdddllcaaLinkF
import Derived.Test.YtimkjhjdddllcaaLinkG
import Derived.Test.YtimkjhjdddllcaaStr
import Derived.Deep.RegionHeld3
import Derived.Deep.DrawnRows
namespace Go.Proofs.Ytimkjhjdddllcaa.fnBursts
open Go.ChangeShapes Go.WideShapes Go.ChangeAt Go.RowKit Sat
open Go.ChangeMaps (open_string shut_string)
set_option linter.unusedVariables false
attribute [local go_sem ↓] Go.wp_at_zero Go.wp_at_succ

def body (t : List UInt8) : List UInt8 := scramble (spread (encodeBlock t))
theorem body_length (t : List UInt8) : (body t).length = 2 * t.length := by unfold body; rw [scramble_length, spread_length, encodeBlock_length]
theorem make_ext (t : List UInt8) (h1 : 1 ≤ t.length) (h2 : t.length ≤ 200) : (str (makeL t)).extract 4 (str (makeL t)).size = str (body t) ∧ (str (makeL t)).extract 0 4 = str syncL := by
  have e : makeL t = syncL ++ body t := makeL_in h1 h2
  have hb := body_length t
  have h4 : (str (makeL t)).size = 4 + 2 * t.length := by rw [str_size, makeL_length h1 h2]
  rw [h4]
  constructor
  · rw [← str_of ((str (makeL t)).extract 4 (4 + 2 * t.length)), ext_data, str_data, e]
    congr 1
    rw [List.drop_left' (by rfl)]
    exact List.take_of_length_le (by omega)
  · rw [← str_of ((str (makeL t)).extract 0 4), ext_data, str_data, e]
    congr 1
theorem hurt_facts (t : List UInt8) (seed : Int) (h1 : 1 ≤ t.length) (h2 : t.length ≤ 200) (s0 : 0 ≤ seed) (s1 : seed ≤ 65535) :
    ∃ (h : ByteArray) (n : Nat), burstT seed (str (body t)) = h ∧ h.size ≤ 400 ∧ readT h = str t ∧ readN h = (n : Int) ∧ readOk h = true ∧ 1 ≤ n ∧ n ≤ 2 * t.length ∧ (h.toList == (str (body t)).toList) = false := by
  have hb := body_length t
  have hz : (str (body t)).size = 2 * t.length := by rw [str_size, hb]
  have hin : burstIn seed (str (body t)).size = true := by rw [hz]; exact decide_eq_true (by omega)
  obtain ⟨_, _, a1, _, m1, _⟩ := burst_nums hin
  rw [hz] at a1 m1
  obtain ⟨d1, d2, d3, d4⟩ := read_burst t (burstA seed (2 * t.length)) (burstM seed (2 * t.length)) h1 h2 m1 (by omega)
  refine ⟨burstT seed (str (body t)), decodeSum (readU (burstT seed (str (body t)))), rfl, ?_, ?_, ?_, ?_, ?_, ?_, ?_⟩
  all_goals
    have e : burstT seed (str (body t)) = str (burst (body t) (burstA seed (2 * t.length)) (burstM seed (2 * t.length))) := by
      unfold burstT; rw [if_pos hin, hz]; rfl
    have hs : (burstT seed (str (body t))).size = 2 * t.length := by rw [e, str_size, burst_length, hb]
  · omega
  · unfold readT; rw [if_pos (by omega)]; unfold readU; rw [e, str_data]; unfold rdU body; rw [d2]
  · unfold readN; rw [if_pos (by omega)]
  · unfold readOk; rw [decide_eq_true (by omega)]; unfold readU; rw [e, str_data]; unfold rdU body; rw [d1]; rfl
  · unfold readU; rw [e, str_data]; exact d3
  · unfold readU; rw [e, str_data]; exact d4
  · rw [cmp_str, e]
    refine decide_eq_false ?_
    rw [str_data, str_data]
    exact burst_ne _ _ _ (by omega)
theorem plain_facts (t : List UInt8) (h1 : 1 ≤ t.length) (h2 : t.length ≤ 200) : readT (str (body t)) = str t ∧ readN (str (body t)) = 0 ∧ readOk (str (body t)) = true := by
  have hz : (str (body t)).size = 2 * t.length := by rw [str_size, body_length]
  obtain ⟨d1, d2, d3⟩ := read_plain t h2
  refine ⟨?_, ?_, ?_⟩
  · unfold readT; rw [if_pos (by omega)]; unfold readU; rw [str_data]; unfold rdU body; rw [d2]
  · unfold readN; rw [if_pos (by omega)]; unfold readU; rw [str_data]; unfold rdU body; rw [d3]; rfl
  · unfold readOk; rw [decide_eq_true (by omega)]; unfold readU; rw [str_data]; unfold rdU body; rw [d1]; rfl
theorem read_is (s : ByteArray) (t : ByteArray) (n : Int) (w : World) (hs : s.size ≤ 1000) (h : readT s = t ∧ readN s = n ∧ readOk s = true) :
    Calls Try.prog 14 #[.string s] w fun e w' => e = .returned (.tuple #[.string t, .int .i64 n, .bool true]) ∧ Below w.heap.size w w' := by
  have := i_ReadBlock s w (by omega)
  rw [h.1, h.2.1, h.2.2] at this
  exact this
theorem make_is (s : ByteArray) (t : ByteArray) (w : World) (hs : s.size ≤ 1000) (h : makeB s = t) :
    Calls Try.prog 11 #[.string s] w fun e w' => e = .returned (.string t) ∧ Below w.heap.size w w' := by
  subst h; exact i_MakeBlock s w (by omega)
theorem burst_is (seed : Int) (s t : ByteArray) (w : World) (hs : s.size ≤ 1000) (h : burstT seed s = t) :
    Calls Try.prog 12 #[.int .i64 seed, .string s] w fun e w' => e = .returned (.tuple #[.int .i64 (burstS seed s), .string t]) ∧ Below w.heap.size w w' := by
  subst h; exact i_BurstText seed s w (by omega)
theorem burst_at (seed seed' : Int) (s t : ByteArray) (w : World) (hs : s.size ≤ 1000) (he : seed = seed') (h : burstT seed' s = t) :
    Calls Try.prog 12 #[.int .i64 seed, .string s] w fun e w' => e = .returned (.tuple #[.int .i64 (burstS seed s), .string t]) ∧ Below w.heap.size w w' := by
  subst he; exact burst_is seed s t w hs h
set_option maxHeartbeats 1600000 in
theorem walk (a : Option Addr) (len cap : Nat) (l : List UInt8) (w : World) (h : IsBytes w w.heap.size a len l) :
    Calls Try.prog 3 #[.slice a len cap] w fun e w' => e = .returned (.bool true) ∧ Below w.heap.size w w' := by
  by_cases hbig : 1048576 < len
  · clear h
    go_enter Try.func3, Try.ntmps3
    go_wp2_with (go_at_call 9; refine (l_big_yes _ _ _ _ hbig).mono ?_; rintro e w1 ⟨rfl, rfl⟩)
    go_ret
    exact ⟨rfl, Below.refl _ _⟩
  · have hlen : len ≤ 1048576 := by omega
    clear hbig
    have H := hide h
    clear h
    have g0 := atI_lt l 0
    have g1 := atI_lt l 1
    go_enter Try.func3, Try.ntmps3
    go_wp2_with fail
    refine (l_big_no _ _ _ _ hlen).mono ?_
    rintro e w1 ⟨rfl, rfl⟩
    go_wp2_with fail
    refine (s_DrawBytes _ _ _ l _ H.out hlen).mono ?_
    rintro e w1 ⟨t, ht, rfl, hb⟩
    have HB := hide hb
    have H1 := hide (H.out.below hb)
    clear hb
    have hsz := str_size t
    by_cases h0 : t.length = 0
    · have he := empty_yes (s := str t) (by omega)
      have hm : makeB (str t) = str [] := by unfold makeB makeL; rw [str_data, if_neg (by omega)]
      have HM := hide hm
      have hs0 : (str t).size ≤ 1000 := by omega
      have hnil : (str []).toList.isEmpty = true := empty_yes (str_size [])
      clear hm h0 hsz
      generalize str t = s at *
      go_wp2_with fail
      refine (make_is _ _ _ hs0 HM.out).mono ?_
      rintro e w2 ⟨rfl, hb2⟩
      go_wp2_with fail
      go_ret
      exact ⟨rfl, below_trans HB.out hb2⟩
    · have he := empty_no (s := str t) (by omega)
      have h1 : 1 ≤ t.length := by omega
      have HZ := hide hsz
      have hssz : (str t).size ≤ 30 := by omega
      clear h0 hsz
      obtain ⟨m1, m2⟩ := make_ext t h1 (by omega)
      have M1 := hide m1
      have M2 := hide m2
      have hmz : (str (makeL t)).size = 4 + 2 * t.length := by rw [str_size, makeL_length h1 (by omega)]
      have HMZ := hide hmz
      have HBD := hide (show (str (body t)).size = 2 * t.length by rw [str_size, body_length])
      clear m1 m2 hmz
      have HMK := hide (show makeB (str t) = str (makeL t) by unfold makeB; rw [str_data])
      go_wp2_with fail
      refine (make_is _ _ _ (by omega) HMK.out).mono ?_
      rintro e w2 ⟨rfl, hb2⟩
      have H2 := hide (H1.out.below (hb2.mono HB.out.size))
      have HB2 := hide (below_trans HB.out hb2)
      clear hb2
      obtain ⟨blk, hblk⟩ : ∃ b, str (makeL t) = b := ⟨_, rfl⟩
      rw [hblk] at M1 M2 HMZ ⊢
      have hbz4 : 4 ≤ blk.size := by have := HMZ.out; omega
      clear hblk HMK
      have hs0 : 0 ≤ (atI l 0 : Int) * 256 + (atI l 1 : Int) ∧ (atI l 0 : Int) * 256 + (atI l 1 : Int) ≤ 65535 := by omega
      obtain ⟨hurt, n, hh1, hh2, hh3, hh4, hh5, hh6, hh7, hh8⟩ := hurt_facts t _ h1 (by omega) hs0.1 hs0.2
      rw [← M1.out] at hh1 hh8
      have P1 := plain_facts t h1 (by omega)
      rw [← M1.out] at P1
      have HH1 := hide hh1
      have HR := hide (And.intro hh3 (And.intro hh4 hh5))
      have HP := hide P1
      clear hh1 hh3 hh4 hh5 P1 hs0
      have H2d : IsBytes w2.drew w.heap.size a len l := H2.out
      have HD := hide H2d
      clear H2d
      have hx : (blk.extract 4 blk.size).size ≤ 1000 := by rw [M1.out]; have := HBD.out; omega
      go_wp2_with fail
      have i4 : (4 : Int) ≤ (blk.size : Int) := by omega
      have j1 : IntKind.i64.wrap ((atI l 0 : Int) * 256) = (atI l 0 : Int) * 256 := by rw [IntKind.wrap_i64]; omega
      have j2 : IntKind.i64.wrap ((atI l 0 : Int) * 256 + (atI l 1 : Int)) = (atI l 0 : Int) * 256 + (atI l 1 : Int) := by rw [IntKind.wrap_i64]; omega
      go_region_held3 (fun _ => True) (first | trivial) (first | (go_at_call 13; refine (l_at _ _ _ l _ _ _ HD.out hlen (by omega) (by omega)).mono ?_; rintro e w1 ⟨rfl, rfl⟩) | (go_at_call 12; refine (burst_at _ ((atI l 0 : Int) * 256 + (atI l 1 : Int)) _ _ _ hx ?_ HH1.out).mono ?_; (first | rfl | (simp only [j1, j2]; done) | (simp only [Int.toNat_zero, Int.toNat_one, j1, j2]; done)); rintro e w3 ⟨rfl, hb3⟩))
      all_goals
        have HB3 := hide (below_trans HB2.out (show Below w2.heap.size w2 w3 from ⟨hb3.os, hb3.tape, hb3.output, hb3.size, hb3.block⟩))
        clear hb3 j1 j2
        generalize burstS _ _ = last at *
        go_wp2_with fail
        refine (read_is _ _ _ _ (by omega) HR.out).mono ?_
        rintro e w4 ⟨rfl, hb4⟩
        have HB4 := hide (below_trans HB3.out hb4)
        clear hb4
        go_wp2_with fail
        refine (read_is _ _ _ _ hx HP.out).mono ?_
        rintro e w5 ⟨rfl, hb5⟩
        have HB5 := hide (below_trans HB4.out hb5)
        clear hb5
        have hn7 : (n : Int) ≤ 2 * ((str t).size : Int) := by have := HZ.out; omega
        have hn6 : (1 : Int) ≤ (n : Int) := by omega
        have hq1 : ((blk.extract 0 4).toList == [26, 207, 252, 29]) = true := by rw [M2.out, ByteArray.toList_eq]; rfl
        have hq2 : ((blk.size : Int) == 4 + 2 * ((str t).size : Int)) = true := beq_iff_eq.2 (by have := HZ.out; have := HMZ.out; omega)
        have HQ := hide (And.intro hh8 (And.intro hq1 hq2))
        clear hq2
        go_wp2_with fail
        go_ret
        refine ⟨ret_bool ?_, HB5.out⟩
        obtain ⟨q1, q2, q3⟩ := HQ.out
        simp [q3]
set_option maxRecDepth 100000 in
theorem lifted (os : Os) (started : os.Started) (H : Type) (enc : TypeId × Value → H) :
    ReturnsInHanded {} Try.checked os 3 .any (Rows.fnBurstsSpec.pre6 enc Try.prog Try.f3 Rows.fnBurstsRow.domain false) (Rows.fnBurstsSpec.post enc Try.prog Try.f3 false true false false) := by
  refine returnsInHanded_of_change (C := Try.checked) own started (by kernel_rfl) Try.func3
    (ChangeSpec.witness6 (enc := enc) (C := Try.checked) false ⟨#[], #[.slice none 0 0], []⟩ 8 (by kernel_rfl) (by kernel_rfl) (by kernel_rfl) (by kernel_rfl)) ?_
  intro W base args ds gs before hval0 hW hcnd _
  have hval : ∀ (j : Nat) t v, Try.f3.params[j]? = some t → args[j]? = some v → Value.okWide Try.prog W .any base t v := hval0
  have hW' := hW
  obtain ⟨p, q, hA0, hV, rfl, hfz, hnd⟩ := hW
  have hA : DataW.TrodAll enc Try.prog W 0 (fun _ => true) true Try.f3.params.toList args.toList ds p := hA0
  rw [Try.params3] at hA hval
  obtain ⟨v0, vs0, d0, ds0, p0, q0, hargs, rfl, rfl, h0, r0⟩ := trodAll_cons hA
  obtain ⟨rfl, rfl, rfl⟩ := trodAll_nil r0
  obtain rfl : args = #[v0] := by cases args; simp_all
  obtain ⟨rfl, rfl⟩ := trodVars_none hV
  have k0 := h0
  have lt0 : ∀ x ∈ p0, x.block < W.heap.size := by obtain ⟨m, hm⟩ := k0; exact DataW.trod_lt m _ _ _ hm
  obtain ⟨a0, len0, cap0, rfl⟩ := okWide_slice Try.underlying22 (hval 0 22 v0 rfl rfl)
  obtain ⟨z0, w0⟩ : ∃ l, IsBytes W W.heap.size a0 len0 l := bytes_of Try.underlying22 Try.underlying5 (by kernel_rfl) h0
  clear hA0 hval0
  refine (walk a0 len0 cap0 z0 W w0).mono fun e W' ⟨he, bel⟩ => ?_
  subst he
  exact ⟨_, rfl, _, _, _, [], _, [], hW', trodAll_mk1 (shut_bool Try.underlying4 _), (trodAll_cons_mk (Below.trod laidOut (by kernel_rfl) (of_decide_eq_true (by kernel_rfl)) k0 bel lt0) trodAll_mk0), rfl, bel.frame _, fun h => by cases h⟩
theorem closed : joinedFacts Try.prog 3 Try.f3 Rows.fnBurstsSpec Rows.fnBurstsRow = true :=
  joined_of (by as_aux_lemma => kernel_rfl) laidOut mapsRowed_ (by as_aux_lemma => kernel_rfl) (by as_aux_lemma => kernel_rfl) (by kernel_rfl) (by as_aux_lemma => kernel_rfl) (by kernel_rfl) (by as_aux_lemma => kernel_rfl)
    (by as_aux_lemma => kernel_rfl) (by as_aux_lemma => kernel_rfl) (by as_aux_lemma => kernel_rfl) (by as_aux_lemma => kernel_rfl) (by as_aux_lemma => kernel_rfl) (by as_aux_lemma => kernel_rfl) (by as_aux_lemma => kernel_rfl) (by as_aux_lemma => kernel_rfl) (by as_aux_lemma => kernel_rfl) (by as_aux_lemma => kernel_rfl)
    (by as_aux_lemma => kernel_rfl) (by as_aux_lemma => kernel_rfl) (by as_aux_lemma => kernel_rfl) (by as_aux_lemma => kernel_rfl) (by kernel_rfl) stopsHeard_ mayEnter_ (by rw [liftsFinal_]; kernel_rfl) (by rw [make_]; kernel_rfl) (by as_aux_lemma => kernel_rfl) (by kernel_rfl) (by as_aux_lemma => kernel_rfl) (by as_aux_lemma => kernel_rfl)
theorem over : Rows.fnBurstsRow.holds Try.pinned (OpenSpec.ofChange Rows.fnBurstsSpec) :=
  OpenClaim.holds_of_wide 3 Try.f3 rfl rfl rfl rfl rfl rfl rfl ⟨rfl, rfl, rfl, rfl, rfl⟩ rfl rfl rfl rfl rfl (by kernel_rfl) Try.func3 closed
    (of_decide_eq_true (by kernel_rfl)) (by unfold Func.isWrapper; first | (rw [if_pos (by decide +kernel)]; kernel_rfl) | (rw [if_neg (by decide +kernel)]; exact ⟨rfl, rfl⟩))
    (fun os started H enc _ => lifted os started H enc)
theorem proved : Rows.FnBurstsSaid := over
#print axioms proved
end Go.Proofs.Ytimkjhjdddllcaa.fnBursts
