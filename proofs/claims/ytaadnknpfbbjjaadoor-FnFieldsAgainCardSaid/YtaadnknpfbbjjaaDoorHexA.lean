/- What EncodeHex and DecodeHex return, in the program and in the reference, for strings of at most 2^40 bytes. -/
import Derived.Test.YtaadnknpfbbjjaaDoorStr
import Derived.Test.YtaadnknpfbbjjaaDoorPlText
import Derived.Deep.RegionLaw
namespace Go.Proofs.YtaadnknpfbbjjaaDoor
open Go.RowKit Sat
set_option linter.unusedVariables false

theorem bAt_s (s : ByteArray) (m : Nat) (h : m < s.size) : bAt s.data.toList m = (s[m]'h).toNat := by
  unfold bAt; rw [List.getD_eq_getElem?_getD, List.getElem?_eq_getElem (by simpa using h)]; rfl
theorem dig_lo {x : Nat} (h : x < 10) : ((hexDig x).toNat : Int) = 48 + (x : Int) := by
  unfold hexDig; rw [if_pos h, UInt8.toNat_ofNat']; omega
theorem dig_hi {x : Nat} (h : ¬ x < 10) (h2 : x < 16) : ((hexDig x).toNat : Int) = 87 + (x : Int) := by
  unfold hexDig; rw [if_neg h, UInt8.toNat_ofNat']; omega
def digV (v : Int) : Int := if v < 10 then 48 + v else (87 + v) % 256
theorem digV_is (x : Nat) (v : Int) (hx : x < 16) (hv : v = (x : Int)) : digV v = ((hexDig x).toNat : Int) := by
  subst hv
  unfold digV
  by_cases h : x < 10
  · rw [if_pos (by omega), dig_lo h]
  · rw [if_neg (by omega), dig_hi h hx]; omega
set_option maxHeartbeats 400000 in
theorem i_hexDigit (v : Int) (w : World) (h0 : 0 ≤ v) (h1 : v ≤ 255) :
    Calls Tryd.prog 27 #[.int .u8 v] w fun e w' => e = .returned (.int .u8 (digV v)) ∧ w = w' := by
  by_cases h : v < 10
  · have H := hide (show digV v = 48 + v by unfold digV; rw [if_pos h])
    go_enter Tryd.func27, Tryd.ntmps27
    go_wp2
    go_ret
    exact ⟨ret_int (by first | exact H.out.symm | (rw [H.out]; omega)), rfl⟩
  · have H := hide (show digV v = (87 + v) % 256 by unfold digV; rw [if_neg h])
    go_enter Tryd.func27, Tryd.ntmps27
    go_wp2
    go_ret
    exact ⟨ret_int (by first | exact H.out.symm | (rw [H.out]; omega)), rfl⟩
set_option maxHeartbeats 400000 in
theorem s_Figure (v : Int) (w : World) (h0 : 0 ≤ v) (h1 : v ≤ 255) :
    Calls Tryd.prog 19 #[.int .i64 v] w fun e w' => e = .returned (.int .u8 (digV v)) ∧ w = w' := by
  by_cases h : v < 10
  · have H := hide (show digV v = 48 + v by unfold digV; rw [if_pos h])
    go_enter Tryd.func19, Tryd.ntmps19
    go_wp2
    go_ret
    exact ⟨ret_int (by first | exact H.out.symm | (rw [H.out]; omega)), rfl⟩
  · have H := hide (show digV v = (87 + v) % 256 by unfold digV; rw [if_neg h])
    go_enter Tryd.func19, Tryd.ntmps19
    go_wp2
    go_ret
    exact ⟨ret_int (by first | exact H.out.symm | (rw [H.out]; omega)), rfl⟩
theorem val_a {c : Nat} (h1 : 48 ≤ c) (h2 : c ≤ 57) : hexVal c = (c : Int) - 48 := by unfold hexVal; rw [if_pos ⟨h1, h2⟩]
theorem val_b {c : Nat} (h1 : 97 ≤ c) (h2 : c ≤ 102) : hexVal c = (c : Int) - 87 := by unfold hexVal; rw [if_neg (by omega), if_pos ⟨h1, h2⟩]
theorem val_c {c : Nat} (h1 : ¬ (48 ≤ c ∧ c ≤ 57)) (h2 : ¬ (97 ≤ c ∧ c ≤ 102)) : hexVal c = -1 := by unfold hexVal; rw [if_neg h1, if_neg h2]
set_option maxHeartbeats 800000 in
theorem i_hexValue (c : Nat) (w : World) (hc : c < 256) :
    Calls Tryd.prog 28 #[.int .u8 c] w fun e w' => e = .returned (.int .i64 (hexVal c)) ∧ w = w' := by
  rcases (show c < 48 ∨ (48 ≤ c ∧ c ≤ 57) ∨ (57 < c ∧ c < 97) ∨ (97 ≤ c ∧ c ≤ 102) ∨ 102 < c by omega) with h | ⟨h1, h2⟩ | ⟨h1, h2⟩ | ⟨h1, h2⟩ | h
  · have H := hide (val_c (c := c) (by omega) (by omega))
    go_enter Tryd.func28, Tryd.ntmps28
    go_wp2
    go_ret
    exact ⟨ret_int H.out.symm, rfl⟩
  · have H := hide (val_a h1 h2)
    go_enter Tryd.func28, Tryd.ntmps28
    go_wp2
    go_ret
    exact ⟨ret_int (by first | exact H.out.symm | (rw [H.out]; omega)), rfl⟩
  · have H := hide (val_c (c := c) (by omega) (by omega))
    go_enter Tryd.func28, Tryd.ntmps28
    go_wp2
    go_ret
    exact ⟨ret_int H.out.symm, rfl⟩
  · have H := hide (val_b h1 h2)
    go_enter Tryd.func28, Tryd.ntmps28
    go_wp2
    go_ret
    exact ⟨ret_int (by first | exact H.out.symm | (rw [H.out]; omega)), rfl⟩
  · have H := hide (val_c (c := c) (by omega) (by omega))
    go_enter Tryd.func28, Tryd.ntmps28
    go_wp2
    go_ret
    exact ⟨ret_int H.out.symm, rfl⟩
def encH (s : ByteArray) : ByteArray := if s.size ≤ 20000 then str (encHex s.data.toList) else str []
/-- append(v, news...) as one step of a region that draws its order -/
theorem step_app {ops : Array Oper} {o : Oper} {a : Act} {K : Act → World → Prop} {Q : Exit → Act → World → Prop} {E : Prop} {W : World} {c : Nat} (hgd : o.guard = none) (s x : Operand)
    (ho : o.op = .call { callee := .builtin .append, args := #[s, x], argTypes := #[24, 24] })
    (B : Nat) (v : Value) (l news : List UInt8) (hs : a.eval s = v) (hown : BOwn W B v l) (g : Nat) (hx : a.eval x = .slice (some ⟨g, 0, none⟩) news.length c) (hc : ∀ j, j < news.length → W.cell? ⟨g, j, none⟩ = some (.int .u8 ((news.getD j 0).toNat : Int)))
    (hsz : l.length + news.length ≤ 1099511627776) (hB : B ≤ W.heap.size)
    (h : ∀ v' w', BOwn w' B v' (l ++ news) → Below B W w' → K (a.put o.dst v') w') : if Region.wanted o (yielded ops a.tmps) = true then Oper.wp Tryd.prog o a W K Q else E := by
  have hw : Region.wanted o (yielded ops a.tmps) = true := by simp [Region.wanted, hgd]
  rw [if_pos hw]
  obtain ⟨i0, hi, hz0, hz1, hz2⟩ := info_parts info8
  refine wp_append_own W s x 24 ho B 5 i0 (.int .u8 0) 1 1 Tryd.underlying24 hi hz0 hz1 hz2 rfl (by decide) v l.length (Bys l) hs hown.out ⟨g, 0, none⟩ news.length c (Bys news) hx (by simp [Bys_length]) ?_ (Bys_one news) (by unfold maxLen; omega) (by omega) hB ?_
  · intro j u hj
    have hlt : j < (Bys news).length := (List.getElem?_eq_some_iff.1 hj).1
    rw [Bys_length] at hlt
    have e : (⟨g, 0, none⟩ : Addr).add j = ⟨g, j, none⟩ := by unfold Addr.add; split <;> simp_all
    rw [Bys_at news j hlt] at hj
    rw [e, hc j hlt, ← hj, List.getD_eq_getElem?_getD, List.getElem?_eq_getElem hlt]; rfl
  · intro v' w' hown' hg _
    refine h v' w' ?_ ?_
    · unfold BOwn; rw [Bys_append, List.length_append]; exact hown'
    · refine Below.grown (Below.refl B W) hg hB ?_
      intro k hk
      exact (hown.out.lt k hk).1
theorem two_new (wr : World) (e1 e2 : Int) (b1 b2 : UInt8) (h1 : e1 = (b1.toNat : Int)) (h2 : e2 = (b2.toNat : Int)) : ∀ j, j < [b1, b2].length → (wr.alloc (.cells #[.int .u8 e1, .int .u8 e2] 5)).cell? ⟨wr.heap.size, j, none⟩ = some (.int .u8 (([b1, b2].getD j 0).toNat : Int)) := by
  intro j hj
  rw [World.cell?_alloc_mark wr _ _ (0, 0) j]
  simp at hj
  obtain rfl | rfl : j = 0 ∨ j = 1 := by omega
  · simp [h1]
  · simp [h2]
theorem ret_sb_ {a b : ByteArray} {c d : Bool} (h : a = b) (h' : c = d) : Ending.returned (.tuple #[.string a, .bool c]) = .returned (.tuple #[.string b, .bool d]) := by rw [h, h']
set_option maxHeartbeats 1600000 in
theorem i_EncodeHex_in (s : ByteArray) (w : World) (hs : s.size ≤ 20000) :
    Calls Tryd.prog 13 #[.string s] w fun e w' => e = .returned (.tuple #[.string (str (encHex s.data.toList)), .bool true]) ∧ Below w.heap.size w w' := by
  have HL := hide (show s.data.toList.length = s.size by simp)
  go_enter Tryd.func13, Tryd.ntmps13
  go_wp2_with (at_make; refine wpList_mk0 rfl _ _ rfl _ (2 * s.size) rfl rfl (by omega) (by omega) ?_; intro w1 hown hb)
  go_loopw [4, 5] (fun v iv wr => ∃ k : Nat, k ≤ s.size ∧ iv = .int .i64 k ∧ BOwn wr w.heap.size v (hexTo s.data.toList k) ∧ Below w.heap.size w wr) (fun _ iv _ => s.size - (intOf iv).toNat)
  case atStart => exact ⟨0, Nat.zero_le _, rfl, hown, hb⟩
  case round =>
    clear hown hb
    obtain ⟨k, hk, rfl, hown, hb⟩ := hrel
    have hsz := hb.size
    by_cases hlt : k < s.size
    · have hx : (s[k]'hlt).toNat < 256 := UInt8.toNat_lt _
      have HY := hide (bAt_s s k hlt)
      have hes := hide (show hexTo s.data.toList (k + 1) = hexTo s.data.toList k ++ [hexDig (bAt s.data.toList k / 16), hexDig (bAt s.data.toList k % 16)] from rfl)
      have HLN := hide (hexTo_length s.data.toList k)
      have hhi := hide (digV_is (bAt s.data.toList k / 16) (((s[k]'hlt).toNat : Int) / 16) (by rw [HY.out]; omega) (by rw [HY.out]; omega))
      have hlo := hide (digV_is (bAt s.data.toList k % 16) (bits .and .u8 ((s[k]'hlt).toNat : Int) 15) (by rw [HY.out]; omega) (by rw [HY.out, u8_and15 (x := ((s[k]'hlt).toNat : Int)) (by omega) (by omega)]; omega))
      have hb0 : 0 ≤ bits .and .u8 ((s[k]'hlt).toNat : Int) 15 := by rw [u8_and15 (x := ((s[k]'hlt).toNat : Int)) (by omega) (by omega)]; omega
      have hb1 : bits .and .u8 ((s[k]'hlt).toNat : Int) 15 ≤ 255 := by rw [u8_and15 (x := ((s[k]'hlt).toNat : Int)) (by omega) (by omega)]; omega
      go_wp2
      go_region_law (first | (refine step_app rfl _ _ rfl w.heap.size _ _ [hexDig (bAt s.data.toList k / 16), hexDig (bAt s.data.toList k % 16)] rfl (hown.alloc _) wr.heap.size rfl (two_new wr _ _ _ _ hhi.out hlo.out) (by rw [HLN.out]; simp; omega) (by simp; omega) ?_; intro v' w' hown' hb') | (go_simp; go_at_call 27; refine (i_hexDigit _ _ (by omega) (by omega)).mono ?_; rintro e w' ⟨rfl, rfl⟩))
      all_goals
        clear hown
        go_wp2
        go_roundw
        case rel => exact ⟨k + 1, by omega, by go_num, by rw [hes.out]; exact hown', ((hb.alloc hsz _).drew).trans hb'⟩
        case measure => simp [intOf]; omega
    · obtain rfl : k = s.size := by omega
      have hs' := hown.str
      rw [show hexTo s.data.toList s.size = encHex s.data.toList by unfold encHex; rw [HL.out]] at hs'
      clear hown
      go_wp2
      go_ret2
      exact ⟨rfl, hb⟩
set_option maxHeartbeats 400000 in
theorem i_EncodeHex (s : ByteArray) (w : World) (hs : s.size ≤ 1099511627776) :
    Calls Tryd.prog 13 #[.string s] w fun e w' => e = .returned (.tuple #[.string (encH s), .bool (decide (s.size ≤ 20000))]) ∧ Below w.heap.size w w' := by
  by_cases h : s.size ≤ 20000
  · have := i_EncodeHex_in s w h
    unfold encH
    rw [if_pos h, decide_eq_true h]
    exact this
  · have H := hide (show encH s = str [] by unfold encH; rw [if_neg h])
    have H2 := hide (decide_eq_false h)
    go_enter Tryd.func13, Tryd.ntmps13
    go_wp2
    go_ret2
    exact ⟨ret_sb_ H.out.symm H2.out.symm, Below.refl _ _⟩
theorem hexq : ∀ x : Nat, x < 256 → IntKind.i64.wrap ((IntKind.i64.wrap (x : Int)).tdiv 16) = ((x / 16 : Nat) : Int) ∧ (IntKind.i64.wrap (x : Int)).tmod 16 = ((x % 16 : Nat) : Int) := by decide +kernel
end Go.Proofs.YtaadnknpfbbjjaaDoor
