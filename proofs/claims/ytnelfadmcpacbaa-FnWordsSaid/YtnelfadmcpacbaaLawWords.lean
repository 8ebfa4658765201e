/- For every code of at most 2^20 bytes (longer ones the law lets pass), numbers can be read from their words, and a sealed text with one byte changed cannot be opened: the law FnWords returns true. -/
import Derived.Test.YtnelfadmcpacbaaRowBase
import Derived.Test.YtnelfadmcpacbaaDrawB
import Derived.Test.YtnelfadmcpacbaaLinkA
import Derived.Test.YtnelfadmcpacbaaStr
import Derived.Test.YtnelfadmcpacbaaOwn
import Derived.Test.YtnelfadmcpacbaaWordB
import Derived.Test.YtnelfadmcpacbaaWordC
import Derived.Test.YtnelfadmcpacbaaWordE
import Derived.Test.YtnelfadmcpacbaaWordF
import Derived.Deep.QuietTactic
import Derived.BigQuiet
import Derived.Deep.RegionHeld3
import Derived.Deep.DrawnRows
namespace Go.Proofs.Ytnelfadmcpacbaa.fnWords
open Go.ChangeShapes Go.WideShapes Go.ChangeAt Go.RowKit Sat
open Go.ChangeMaps (open_string shut_string)
set_option linter.unusedVariables false
attribute [local go_sem ↓] Go.wp_at_zero Go.wp_at_succ

theorem quiet_left {P : Program} {f : FuncId} {args : Array Value} {w : World} {n : Nat} {v : Value}
    (h : Calls P f args (w.drewN n) fun e w' => e = .returned v ∧ w.drewN n = w') : Calls P f args (w.drewN n) fun e w'' => e = .returned v ∧ ∃ m, w'' = w.drewN m :=
  h.mono fun _ _ ⟨he, hm⟩ => ⟨he, n, hm.symm⟩
theorem xor_bytes (a b : UInt8) : bits .xor .u8 (a.toNat : Int) (b.toNat : Int) = ((a ^^^ b).toNat : Int) := by
  rw [u8_xor_nat _ _ a.toNat_lt b.toNat_lt, UInt8.toNat_xor]
/-- a text with one byte changed -/
def turnL (l : List UInt8) (k n : Nat) : List UInt8 := l.set (k % l.length) (l.getD (k % l.length) 0 ^^^ UInt8.ofNat (1 + n % 255))
set_option maxHeartbeats 1600000 in
theorem l_turn (s : ByteArray) (k n : Nat) (w : World) (h1 : 1 ≤ s.size) (h2 : s.size ≤ 1000) (hk : k ≤ 255) (hn : n ≤ 255) :
    Calls Try.prog 50 #[.string s, .int .i64 k, .int .i64 n] w fun e w' => e = .returned (.string (str (turnL s.data.toList k n))) ∧ Below w.heap.size w w' := by
  have hcv := fun w => run_bytes_of_string (P := Try.prog) w 9 70 5 s Try.underlying9 Try.underlying70 Try.underlying5
  have HL := hide (show s.data.toList.length = s.size by simp)
  have HT := hide (show turnL s.data.toList k n = s.data.toList.set (k % s.size) (s.data.toList.getD (k % s.size) 0 ^^^ UInt8.ofNat (1 + n % 255)) by unfold turnL; rw [HL.out])
  have hks : k % s.size < s.size := Nat.mod_lt _ (by omega)
  go_enter Try.func50, Try.ntmps50
  go_wp2_with fail
  have hm := BMar.made w s (grownCap w s.size 0 5)
  have hb0 : Below w.heap.size w (w.alloc (.cells (bytesRow s (grownCap w s.size 0 5)) 5 ((bytesRow s (grownCap w s.size 0 5)).size, (bytesRow s (grownCap w s.size 0 5)).size + 1))).drew := ((Below.refl w.heap.size w).alloc (Nat.le_refl _) _).drew
  generalize grownCap w s.size 0 5 = c at *
  generalize (w.alloc (.cells (bytesRow s c) 5 ((bytesRow s c).size, (bytesRow s c).size + 1))).drew = W at *
  have hc := hm.cell (k % s.size) hks
  have hf := hm.frozen (k % s.size) hks
  have hst := hide (hm.stored (k % s.size) (s.data.toList.getD (k % s.size) 0 ^^^ UInt8.ofNat (1 + n % 255)))
  have hxb := hide (xor_bytes (s.data.toList.getD (k % s.size) 0) (UInt8.ofNat (1 + n % 255)))
  have hbn := hide (show (1 + (n : Int) % 255) = ((UInt8.ofNat (1 + n % 255)).toNat : Int) by rw [UInt8.toNat_ofNat']; omega)
  have HB0 := hide hb0
  clear hm hb0 hcv
  generalize s.data.toList.getD (k % s.size) 0 = old at *
  have hold : old.toNat < 256 := UInt8.toNat_lt _
  have hr1 : (0 : Int) ≤ (k : Int) % (s.size : Int) := Int.emod_nonneg _ (by omega)
  have hr2 : (k : Int) % (s.size : Int) < (s.size : Int) := Int.emod_lt_of_pos _ (by omega)
  have hr3 : ((k : Int) % (s.size : Int)).toNat = k % s.size := by omega
  go_region
  rw [hbn.out, hxb.out]
  have hs' := (show BMar (W.setCell ⟨w.heap.size, k % s.size, none⟩ (.int .u8 ((old ^^^ UInt8.ofNat (1 + n % 255)).toNat : Int))).drew w.heap.size s.size _ from hst.out).str (cap := c)
  rw [← HT.out] at hs'
  have HV := hide (show Below w.heap.size w (W.setCell ⟨w.heap.size, k % s.size, none⟩ (.int .u8 ((old ^^^ UInt8.ofNat (1 + n % 255)).toNat : Int))).drew from (HB0.out.setCell (Nat.le_refl _) _).drew)
  generalize (W.setCell ⟨w.heap.size, k % s.size, none⟩ (.int .u8 ((old ^^^ UInt8.ofNat (1 + n % 255)).toNat : Int))).drew = V at *
  clear hst hc hf hr1 hr2 hr3 hks hold hbn hxb HT
  generalize hr : str (turnL s.data.toList k n) = r at *
  have HR := hide hr
  clear hr
  go_wp2
  go_ret
  exact ⟨ret_str HR.out.symm, HV.out⟩
theorem turned_shut (t : List UInt8) (k n : Nat) : openOk (turnL (sealL t) k n) = false := by
  have hl := sealL_length t
  have hj : k % (sealL t).length < (sealL t).length := Nat.mod_lt _ (by omega)
  have h := open_changed t (k % (sealL t).length) (UInt8.ofNat (1 + n % 255)) (by
    intro e
    have := congrArg UInt8.toNat e
    rw [UInt8.toNat_ofNat'] at this
    simp at this
    omega) hj
  unfold turnL
  rw [List.getD_eq_getElem?_getD, List.getElem?_eq_getElem hj]
  exact h
theorem turnL_length (l : List UInt8) (k n : Nat) : (turnL l k n).length = l.length := by simp [turnL]
theorem i_Open_is (s t : ByteArray) (ok : Bool) (w : World) (hs : s.size ≤ 70368744177664) (h1 : str (openT s.data.toList) = t) (h2 : openOk s.data.toList = ok) :
    Calls Try.prog 49 #[.string s] w fun e w' => e = .returned (.tuple #[.string t, .bool ok]) ∧ Below w.heap.size w w' := by
  have := i_OpenText s w hs
  rw [h1, h2] at this
  exact this
theorem i_Get_is (s : ByteArray) (a k v : Int) (ok : Bool) (w : World) (hs : s.size ≤ 140737488355328) (ha : -9223372036854775808 ≤ a) (ha' : a ≤ 9223372036854775807) (h1 : getV s a k = v) (h2 : getOk s a k = ok) :
    Calls Try.prog 47 #[.string s, .int .i64 a, .int .i64 k] w fun e w' => e = .returned (.tuple #[.int .i64 v, .bool ok]) ∧ w = w' := by
  have := i_GetWord s a k w hs ha ha'
  rw [h1, h2] at this
  exact this
theorem i_Put_is (n k : Int) (t : ByteArray) (w : World) (h : putB n k = t) :
    Calls Try.prog 46 #[.int .i64 n, .int .i64 k] w fun e w' => e = .returned (.string t) ∧ Below w.heap.size w w' := by
  subst h; exact i_PutWord n k w
theorem i_Seal_is (s t : ByteArray) (w : World) (hs : s.size ≤ 1000) (h : sealB s = t) :
    Calls Try.prog 48 #[.string s] w fun e w' => e = .returned (.string t) ∧ Below w.heap.size w w' := by
  subst h; exact i_SealText s w (by omega)
theorem i_Check_is (s : ByteArray) (n : Nat) (w : World) (hs : s.size ≤ 1000) (h : crc s.data.toList = n) :
    Calls Try.prog 51 #[.string s] w fun e w' => e = .returned (.int .i64 n) ∧ w = w' := by
  subst h; exact i_CheckOf s w (by omega)
theorem open_from (W0 : World) (s t : ByteArray) (ok : Bool) (w : World) (hw : Below W0.heap.size W0 w) (hs : s.size ≤ 1000) (h1 : str (openT s.data.toList) = t) (h2 : openOk s.data.toList = ok) :
    Calls Try.prog 49 #[.string s] w fun e w' => e = .returned (.tuple #[.string t, .bool ok]) ∧ Below W0.heap.size W0 w' :=
  (i_Open_is s t ok w (by omega) h1 h2).mono fun _ _ ⟨a, b⟩ => ⟨a, below_trans hw b⟩
theorem i_Ones_is (v : Int) (x : Nat) (w : World) (h : onesI v = (x : Int)) :
    Calls Try.prog 52 #[.int .i64 v] w fun e w' => e = .returned (.int .i64 x) ∧ w = w' := by
  rw [← h]; exact i_CountOnes v w
/-- the number that is put between two bytes is got again -/
theorem got_back (N : Nat) (hN : N < 4294967296) : putB N 4 = str (wordBytes N 4) ∧ (str (wordBytes N 4)).size = 4 ∧ getV (str ([120] ++ wordBytes N 4 ++ [121])) 1 4 = (N : Int) ∧ getOk (str ([120] ++ wordBytes N 4 ++ [121])) 1 4 = true ∧ getOk (str (wordBytes N 4)) 1 4 = false := by
  have hl := wordBytes_length N 4
  have hz : (str (wordBytes N 4)).size = 4 := by rw [str_size, hl]
  have hz6 : (str ([120] ++ wordBytes N 4 ++ [121])).size = 6 := by rw [str_size]; simp [hl]
  have ok : getOk (str ([120] ++ wordBytes N 4 ++ [121])) 1 4 = true := by unfold getOk; rw [hz6]; decide
  refine ⟨putB_word N 4 (by omega) (by omega) (by omega), hz, ?_, ok, ?_⟩
  · rw [getV_yes ok, str_data]
    have e : (([120] ++ wordBytes N 4 ++ [121]).drop (1 : Int).toNat).take (4 : Int).toNat = wordBytes N 4 := by
      show (([120] ++ wordBytes N 4 ++ [121]).drop 1).take 4 = _
      rw [List.append_assoc]
      show (wordBytes N 4 ++ [121]).take 4 = _
      rw [List.take_append_of_le_length (by omega), List.take_of_length_le (by omega)]
    rw [e, wordVal_wordBytes 4 N (by omega)]
  · unfold getOk; rw [hz]; decide
theorem half_ones (N : Nat) (hN : N < 4294967296) : ones 32 N = ones 32 (N / 2) + N % 2 ∧ ones 32 (N / 2) ≤ 32 := by
  have e1 : ones 32 N = N % 2 + ones 31 (N / 2) := rfl
  have e2 : ones 32 (N / 2) = _ := ones_split 31 1 (N / 2)
  have e3 : ones 1 (N / 2 / 2 ^ 31) = 0 := by
    have : N / 2 / 2 ^ 31 = 0 := by omega
    rw [this]; rfl
  have e4 : N / 2 % 2 ^ 31 = N / 2 := Nat.mod_eq_of_lt (by omega)
  rw [e3, e4] at e2
  exact ⟨by omega, ones_le 32 _⟩
set_option maxHeartbeats 3200000 in
theorem walk (a : Option Addr) (len cap : Nat) (l : List UInt8) (w : World) (h : IsBytes w w.heap.size a len l) :
    Calls Try.prog 9 #[.slice a len cap] w fun e w' => e = .returned (.bool true) ∧ Below w.heap.size w w' := by
  by_cases hbig : 1048576 < len
  · clear h
    go_enter Try.func9, Try.ntmps9
    go_wp2_with (go_at_call 43; refine (l_big_yes _ _ _ _ hbig).mono ?_; rintro e w1 ⟨rfl, rfl⟩)
    go_ret
    exact ⟨rfl, Below.refl _ _⟩
  · have hlen : len ≤ 1048576 := by omega
    clear hbig
    have H := hide h
    clear h
    have g0 := atI_lt l 0
    have g1 := atI_lt l 1
    have g2 := atI_lt l 2
    have g3 := atI_lt l 3
    have g4 := atI_lt l 4
    have g5 := atI_lt l 5
    go_enter Try.func9, Try.ntmps9
    go_wp2_with fail
    refine (l_big_no _ _ _ _ hlen).mono ?_
    rintro e w1 ⟨rfl, rfl⟩
    go_wp2_with fail
    refine (s_DrawBytes _ _ _ l _ H.out hlen).mono ?_
    rintro e w1 ⟨t, ht, rfl, hb⟩
    have HB := hide hb
    have H1 := hide (H.out.below hb)
    clear hb H
    have hsz := str_size t
    have hssz : (str t).size ≤ 30 := by omega
    have hA1 : (0 : Int) ≤ (atI l 0 : Int) * (atI l 1 : Int) := Int.mul_nonneg (by omega) (by omega)
    have hA2 : (atI l 0 : Int) * (atI l 1 : Int) ≤ 255 * 255 := Int.mul_le_mul (by omega) (by omega) (by omega) (by omega)
    have hB1 : (0 : Int) ≤ (atI l 0 : Int) * (atI l 1 : Int) * (atI l 2 : Int) := Int.mul_nonneg hA1 (by omega)
    have hB2 : (atI l 0 : Int) * (atI l 1 : Int) * (atI l 2 : Int) ≤ 255 * 255 * 255 := Int.mul_le_mul hA2 (by omega) (by omega) (by omega)
    have HTS := hide (show (str t).data.toList = t from rfl)
    go_wp2_with fail
    refine (l_at _ _ _ l _ _ _ H1.out hlen (by omega) (by omega)).mono ?_
    rintro e w2 ⟨rfl, rfl⟩
    go_wp2_with fail
    refine (l_at _ _ _ l _ _ _ H1.out hlen (by omega) (by omega)).mono ?_
    rintro e w2 ⟨rfl, rfl⟩
    go_wp2_with fail
    refine (l_at _ _ _ l _ _ _ H1.out hlen (by omega) (by omega)).mono ?_
    rintro e w2 ⟨rfl, rfl⟩
    go_wp2_with fail
    refine (l_at _ _ _ l _ _ _ H1.out hlen (by omega) (by omega)).mono ?_
    rintro e w2 ⟨rfl, rfl⟩
    obtain ⟨N, hN⟩ := Int.eq_ofNat_of_zero_le (show 0 ≤ (atI l 0 : Int) * (atI l 1 : Int) * (atI l 2 : Int) + (atI l 3 : Int) by omega)
    have hNlt : N < 4294967296 := by omega
    obtain ⟨p1, p2, p3, p4, p5⟩ := got_back N hNlt
    have P1 := hide p1
    have P3 := hide p3
    have P4 := hide p4
    have P5 := hide p5
    have HN := hide hN
    clear p1 p3 p4 p5 hA1 hA2 hN hsz
    have hadd1 := fun w => run_string_add_sum (P := Try.prog) (w := w) (str [120]) (str (wordBytes N 4)) (by rw [str_size]; simp; omega)
    rw [app_strs] at hadd1
    have hz5 : (str ([120] ++ wordBytes N 4)).size = 5 := by rw [str_size]; simp [wordBytes_length]
    have hadd2 := fun w => run_string_add_sum (P := Try.prog) (w := w) (str ([120] ++ wordBytes N 4)) (str [121]) (by rw [hz5, str_size [121]]; simp)
    rw [app_strs] at hadd2
    have hz6 : (str ([120] ++ wordBytes N 4 ++ [121])).size ≤ 1000 := by rw [str_size]; simp [wordBytes_length]
    generalize str ([120] ++ wordBytes N 4 ++ [121]) = x2 at *
    generalize str ([120] ++ wordBytes N 4) = x1 at *
    generalize str (wordBytes N 4) = x0 at *
    change ∀ w, (Op.stringOp .add ⟨#[120]⟩ x0).run Try.prog w = _ at hadd1
    change ∀ w, (Op.stringOp .add x1 ⟨#[121]⟩).run Try.prog w = _ at hadd2
    have hx4 : x0.size ≤ 1000 := by omega
    have hx4e : ((x0.size : Int) == 4) = true := by rw [p2]; rfl
    have HX4 := hide p2
    clear p2 hz5
    go_wp2_with fail
    clear hB1 hB2
    rw [HN.out]
    refine (i_Put_is _ _ _ _ P1.out).mono ?_
    rintro e w2 ⟨rfl, hb⟩
    have HB2 := hide (below_trans HB.out hb)
    have H2 := hide (H1.out.below (hb.mono HB.out.size))
    clear hb H1
    go_wp2_with fail
    refine (i_Get_is _ _ _ _ _ _ (by omega) (by omega) (by omega) P3.out P4.out).mono ?_
    rintro e w3 ⟨rfl, rfl⟩
    go_wp2_with fail
    refine (i_Get_is _ _ _ _ _ _ (by omega) (by omega) (by omega) rfl P5.out).mono ?_
    rintro e w3 ⟨rfl, rfl⟩
    generalize getV x0 1 4 = nov at *
    clear hadd1 hadd2
    have hSL := sealL_length t
    have hSZ : (str (sealL t)).size ≤ 1000 := by rw [str_size]; omega
    have hSZ1 : 1 ≤ (str (sealL t)).size := by rw [str_size]; omega
    have S1 := hide (show sealB (str t) = str (sealL t) from rfl)
    have S2 := hide (show str (openT (str (sealL t)).data.toList) = str t by rw [str_data, (open_sealed t).2])
    have S3 := hide (show openOk (str (sealL t)).data.toList = true by rw [str_data, (open_sealed t).1])
    have S4 := hide (turned_shut t (atI l 4) (atI l 5))
    have S5 := hide (show (str (turnL (str (sealL t)).data.toList (atI l 4) (atI l 5))).size ≤ 1000 by rw [str_size, turnL_length, str_data]; omega)
    have S6 := hide (show openOk (str (turnL (str (sealL t)).data.toList (atI l 4) (atI l 5))).data.toList = false from S4.out)
    have S7 := crc_lt t
    have S8 := hide (show crc (str t).data.toList = crc t from rfl)
    clear S4 hSL
    generalize str (sealL t) = T at *
    go_wp2_with fail
    refine (i_Seal_is _ _ _ (by omega) S1.out).mono ?_
    rintro e w4 ⟨rfl, hb⟩
    have HB4 := hide (below_trans HB2.out hb)
    have H4 := hide (H2.out.below (hb.mono HB2.out.size))
    clear hb H2
    go_wp2_with fail
    refine (i_Open_is _ _ _ _ (by omega) S2.out S3.out).mono ?_
    rintro e w5 ⟨rfl, hb⟩
    have HB5 := hide (below_trans HB4.out hb)
    have H5 := hide (H4.out.below (hb.mono HB4.out.size))
    clear hb H4
    go_wp2_with fail
    refine (l_at _ _ _ l _ _ _ H5.out hlen (by omega) (by omega)).mono ?_
    rintro e w6 ⟨rfl, rfl⟩
    go_wp2_with fail
    refine (l_at _ _ _ l _ _ _ H5.out hlen (by omega) (by omega)).mono ?_
    rintro e w6 ⟨rfl, rfl⟩
    go_wp2_with fail
    refine (l_turn _ _ _ _ hSZ1 hSZ (by first | omega | (simp; omega)) (by first | omega | (simp; omega))).mono ?_
    rintro e w6 ⟨rfl, hb⟩
    have HB6 := hide (below_trans HB5.out hb)
    clear hb
    go_wp2_with fail
    refine (i_Open_is _ _ _ _ (by have := S5.out; omega) rfl S6.out).mono ?_
    rintro e w7 ⟨rfl, hb⟩
    have HB7 := hide (below_trans HB6.out hb)
    clear hb
    generalize str (openT _) = ot at *
    have hcr : (crc t : Int) ≤ 65535 := by omega
    obtain ⟨o1, o2⟩ := half_ones N hNlt
    have C1 := hide (show onesI (N : Int) = ((ones 32 N : Nat) : Int) from onesI_yes (by omega))
    have C2 := hide (show onesI ((N : Int) / 2) = ((ones 32 (N / 2) : Nat) : Int) from onesI_yes (n := N / 2) (by omega))
    have C3 : ((ones 32 N : Nat) : Int) = ((ones 32 (N / 2) : Nat) : Int) + (N : Int) % 2 := by omega
    generalize ones 32 N = x1 at *
    generalize ones 32 (N / 2) = x2 at *
    have HC3 := hide C3
    clear C3 o1
    generalize crc t = cr at *
    go_wp2_with fail
    refine (i_Check_is _ _ _ (by omega) S8.out).mono ?_
    rintro e w8 ⟨rfl, rfl⟩
    go_wp2_with fail
    refine (i_Ones_is _ _ _ C1.out).mono ?_
    rintro e w8 ⟨rfl, rfl⟩
    go_wp2_with fail
    refine (i_Ones_is _ _ _ C2.out).mono ?_
    rintro e w8 ⟨rfl, rfl⟩
    go_wp2_with fail
    go_ret
    refine ⟨ret_bool ?_, HB7.out⟩
    exact beq_iff_eq.2 HC3.out
set_option maxRecDepth 100000 in
theorem lifted (os : Os) (started : os.Started) (H : Type) (enc : TypeId × Value → H) :
    ReturnsInHanded {} Try.checked os 9 .any (Rows.fnWordsSpec.pre6 enc Try.prog Try.f9 Rows.fnWordsRow.domain false) (Rows.fnWordsSpec.post enc Try.prog Try.f9 false true false false) := by
  refine returnsInHanded_of_change (C := Try.checked) own started (by kernel_rfl) Try.func9
    (ChangeSpec.witness6 (enc := enc) (C := Try.checked) false ⟨#[], #[.slice none 0 0], []⟩ 8 (by kernel_rfl) (by kernel_rfl) (by kernel_rfl) (by kernel_rfl)) ?_
  intro W base args ds gs before hval0 hW hcnd _
  have hval : ∀ (j : Nat) t v, Try.f9.params[j]? = some t → args[j]? = some v → Value.okWide Try.prog W .any base t v := hval0
  have hW' := hW
  obtain ⟨p, q, hA0, hV, rfl, hfz, hnd⟩ := hW
  have hA : DataW.TrodAll enc Try.prog W 0 (fun _ => true) true Try.f9.params.toList args.toList ds p := hA0
  rw [Try.params9] at hA hval
  obtain ⟨v0, vs0, d0, ds0, p0, q0, hargs, rfl, rfl, h0, r0⟩ := trodAll_cons hA
  obtain ⟨rfl, rfl, rfl⟩ := trodAll_nil r0
  obtain rfl : args = #[v0] := by cases args; simp_all
  obtain ⟨rfl, rfl⟩ := trodVars_none hV
  have k0 := h0
  have lt0 : ∀ x ∈ p0, x.block < W.heap.size := by obtain ⟨m, hm⟩ := k0; exact DataW.trod_lt m _ _ _ hm
  obtain ⟨a0, len0, cap0, rfl⟩ := okWide_slice Try.underlying70 (hval 0 70 v0 rfl rfl)
  obtain ⟨z0, w0⟩ : ∃ l, IsBytes W W.heap.size a0 len0 l := bytes_of Try.underlying70 Try.underlying5 (by kernel_rfl) h0
  clear hA0 hval0
  refine (walk a0 len0 cap0 z0 W w0).mono fun e W' ⟨he, bel⟩ => ?_
  subst he
  exact ⟨_, rfl, _, _, _, [], _, [], hW', trodAll_mk1 (shut_bool Try.underlying4 _), (trodAll_cons_mk (Below.trod laidOut (by kernel_rfl) (of_decide_eq_true (by kernel_rfl)) k0 bel lt0) trodAll_mk0), rfl, bel.frame _, fun h => by cases h⟩
theorem closed : joinedFacts Try.prog 9 Try.f9 Rows.fnWordsSpec Rows.fnWordsRow = true :=
  joined_of (by as_aux_lemma => kernel_rfl) laidOut mapsRowed_ (by as_aux_lemma => kernel_rfl) (by as_aux_lemma => kernel_rfl) (by kernel_rfl) (by as_aux_lemma => kernel_rfl) (by kernel_rfl) (by as_aux_lemma => kernel_rfl)
    (by as_aux_lemma => kernel_rfl) (by as_aux_lemma => kernel_rfl) (by as_aux_lemma => kernel_rfl) (by as_aux_lemma => kernel_rfl) (by as_aux_lemma => kernel_rfl) (by as_aux_lemma => kernel_rfl) (by as_aux_lemma => kernel_rfl) (by as_aux_lemma => kernel_rfl) (by as_aux_lemma => kernel_rfl) (by as_aux_lemma => kernel_rfl)
    (by as_aux_lemma => kernel_rfl) (by as_aux_lemma => kernel_rfl) (by as_aux_lemma => kernel_rfl) (by as_aux_lemma => kernel_rfl) (by kernel_rfl) stopsHeard_ mayEnter_ (by rw [liftsFinal_]; kernel_rfl) (by rw [make_]; kernel_rfl) (by as_aux_lemma => kernel_rfl) (by kernel_rfl) (by as_aux_lemma => kernel_rfl) (by as_aux_lemma => kernel_rfl)
theorem over : Rows.fnWordsRow.holds Try.pinned (OpenSpec.ofChange Rows.fnWordsSpec) :=
  OpenClaim.holds_of_wide 9 Try.f9 rfl rfl rfl rfl rfl rfl rfl ⟨rfl, rfl, rfl, rfl, rfl⟩ rfl rfl rfl rfl rfl (by kernel_rfl) Try.func9 closed
    (of_decide_eq_true (by kernel_rfl)) (by unfold Func.isWrapper; first | (rw [if_pos (by decide +kernel)]; kernel_rfl) | (rw [if_neg (by decide +kernel)]; exact ⟨rfl, rfl⟩))
    (fun os started H enc _ => lifted os started H enc)
theorem proved : Rows.FnWordsSaid := over
#print axioms proved
end Go.Proofs.Ytnelfadmcpacbaa.fnWords
