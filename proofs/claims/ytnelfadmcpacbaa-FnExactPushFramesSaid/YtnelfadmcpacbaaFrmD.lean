/- What DecodePacket returns, in the program and in the reference, for strings of at most 2^40 bytes and all ints. -/
import Derived.Test.YtnelfadmcpacbaaFrmB
namespace Go.Proofs.Ytnelfadmcpacbaa
open Go.RowKit Sat
set_option linter.unusedVariables false
set_option linter.unusedSimpArgs false

def dpA (s : ByteArray) (k : Int) : Int := getV s k 1
def dpQ (s : ByteArray) (k : Int) : Int := getV s (k + 1) 2
def dpN (s : ByteArray) (k : Int) : Int := getV s (k + 3) 1
def dpOk (s : ByteArray) (k : Int) : Bool := decide (0 ≤ k ∧ k + 4 ≤ s.size ∧ dpA s k ≤ 15 ∧ dpN s k ≤ 40 ∧ dpN s k ≤ s.size - k - 4)
def dpD (s : ByteArray) (k : Int) : ByteArray := s.extract (k.toNat + 4) (k.toNat + 4 + (dpN s k).toNat)
def dpV (s : ByteArray) (k : Int) : Value := if dpOk s k then .agg #[.int .i64 (dpA s k), .int .i64 (dpQ s k), .string (dpD s k)] else .agg #[.int .i64 0, .int .i64 0, .string ⟨#[]⟩]
def dpL (s : ByteArray) (k : Int) : Int := if dpOk s k then 4 + dpN s k else 0
theorem dp_no {s : ByteArray} {k : Int} (h : dpOk s k = false) : dpV s k = .agg #[.int .i64 0, .int .i64 0, .string ⟨#[]⟩] ∧ dpL s k = 0 := by unfold dpV dpL; rw [h]; exact ⟨rfl, rfl⟩
theorem dp_yes {s : ByteArray} {k : Int} (h : dpOk s k = true) : dpV s k = .agg #[.int .i64 (dpA s k), .int .i64 (dpQ s k), .string (dpD s k)] ∧ dpL s k = 4 + dpN s k := by unfold dpV dpL; rw [if_pos h, if_pos h]; exact ⟨rfl, rfl⟩
theorem ret_vib {a b : Value} {x y : Int} {c d : Bool} (h : a = b) (h1 : x = y) (h2 : c = d) : Ending.returned (.tuple #[a, .int .i64 x, .bool c]) = .returned (.tuple #[b, .int .i64 y, .bool d]) := by rw [h, h1, h2]
theorem dpV_form (s : ByteArray) (k : Int) : ∃ (a q : Int) (d : ByteArray), dpV s k = .agg #[.int .i64 a, .int .i64 q, .string d] := by
  unfold dpV; split
  · exact ⟨_, _, _, rfl⟩
  · exact ⟨_, _, _, rfl⟩
theorem i_GetWord_is (s : ByteArray) (a k v : Int) (r : Bool) (w : World) (hs : s.size ≤ 140737488355328) (ha : -9223372036854775808 ≤ a) (ha' : a ≤ 9223372036854775807) (hv : getV s a k = v) (hr : getOk s a k = r) :
    Calls Try.prog 47 #[.string s, .int .i64 a, .int .i64 k] w fun e w' => e = .returned (.tuple #[.int .i64 v, .bool r]) ∧ w = w' := by
  subst hv; subst hr; exact i_GetWord s a k w hs ha ha'
set_option maxHeartbeats 1600000 in
theorem i_DecodePacket (s : ByteArray) (k : Int) (w : World) (hs : s.size ≤ 1099511627776) (hk : -9223372036854775808 ≤ k) (hk' : k ≤ 9223372036854775807) :
    Calls Try.prog 74 #[.string s, .int .i64 k] w fun e w' => e = .returned (.tuple #[dpV s k, .int .i64 (dpL s k), .bool (dpOk s k)]) ∧ Below w.heap.size w w' := by
  by_cases h0 : 0 ≤ k ∧ k + 4 ≤ s.size
  · obtain ⟨h1, h2⟩ := h0
    obtain ⟨n, rfl⟩ := Int.eq_ofNat_of_zero_le h1
    have ra := getV_range s n 1
    have rq := getV_range s (n + 1) 2
    have rn := getV_range s (n + 3) 1
    have oa : getOk s n 1 = true := decide_eq_true (by omega)
    have oq : getOk s (n + 1) 2 = true := decide_eq_true (by omega)
    have on : getOk s (n + 3) 1 = true := decide_eq_true (by omega)
    have HA := hide oa
    have HQ := hide oq
    have HN := hide on
    have ra0 := ra.1
    have ra1 := ra.2
    have rq0 := rq.1
    have rq1 := rq.2
    have rn0 := rn.1
    have rn1 := rn.2
    have dA := hide (show dpA s n = getV s n 1 from rfl)
    have dQ := hide (show dpQ s n = getV s (n + 1) 2 from rfl)
    have dN := hide (show dpN s n = getV s (n + 3) 1 from rfl)
    have GA := hide (rfl : getV s n 1 = getV s n 1)
    have hkey : dpOk s n = decide (getV s n 1 ≤ 15 ∧ getV s (n + 3) 1 ≤ 40 ∧ getV s (n + 3) 1 ≤ s.size - n - 4) := by
      unfold dpOk; rw [dA.out, dN.out]; apply decide_eq_decide.2; omega
    have HK := hide hkey
    have hD := hide (show dpD s n = s.extract (n + 4) (n + 4 + (getV s (n + 3) 1).toNat) from rfl)
    clear ra rq rn oa oq on hkey
    obtain ⟨A, hA⟩ : ∃ A, getV s n 1 = A := ⟨_, rfl⟩
    obtain ⟨Q, hQ⟩ : ∃ Q, getV s (n + 1) 2 = Q := ⟨_, rfl⟩
    obtain ⟨N, hN⟩ : ∃ N, getV s (n + 3) 1 = N := ⟨_, rfl⟩
    rw [hA] at ra0 ra1 dA HK
    rw [hQ] at rq0 rq1 dQ
    rw [hN] at rn0 rn1 dN HK hD
    have VA := hide hA
    have VQ := hide hQ
    have VN := hide hN
    clear hA hQ hN GA
    have hgo : A ≤ 15 ∧ N ≤ 40 ∧ N ≤ s.size - n - 4 ∨ ¬ (A ≤ 15 ∧ N ≤ 40 ∧ N ≤ s.size - n - 4) := Decidable.em _
    rcases hgo with ⟨g1, g2, g3⟩ | hbad
    · have hok : dpOk s n = true := by rw [HK.out]; exact decide_eq_true ⟨g1, g2, g3⟩
      have HO := hide hok
      have HY := hide (dp_yes hok)
      obtain ⟨m, rfl⟩ := Int.eq_ofNat_of_zero_le rn0
      clear hok
      go_enter Try.func74, Try.ntmps74
      go_wp2_with fail
      refine (i_GetWord_is _ _ _ _ _ _ (by omega) (by omega) (by omega) VA.out HA.out).mono ?_
      rintro e w1 ⟨rfl, rfl⟩
      go_wp2_with fail
      refine (i_GetWord_is _ _ _ _ _ _ (by omega) (by omega) (by omega) VQ.out HQ.out).mono ?_
      rintro e w1 ⟨rfl, rfl⟩
      go_wp2_with fail
      refine (i_GetWord_is _ _ _ _ _ _ (by omega) (by omega) (by omega) VN.out HN.out).mono ?_
      rintro e w1 ⟨rfl, rfl⟩
      go_wp2_with fail
      have hfin : dpV s n = .agg #[.int .i64 A, .int .i64 Q, .string (s.extract (n + 4) (n + 4 + m))] ∧ dpL s n = 4 + (m : Int) := by
        rw [HY.out.1, HY.out.2, dA.out, dQ.out, dN.out, hD.out, Int.toNat_natCast]; exact ⟨rfl, rfl⟩
      refine bodyPost_ret (v := .tuple #[.agg #[.int .i64 A, .int .i64 Q, .string (s.extract (n + 4) (n + 4 + m))], .int .i64 (4 + (m : Int)), .bool true]) (by simp [results, Try.results74, go_sem]) rfl ⟨ret_vib hfin.1.symm hfin.2.symm HO.out.symm, ?_⟩
      repeat (first | exact Below.refl _ _ | refine Below.drew ?_ | refine Below.setCell ?_ (by first | exact Nat.le_refl _ | (simp; done) | omega) _ | refine Below.alloc ?_ (by first | exact Nat.le_refl _ | (simp; done) | omega | (simp; omega)) _)
    · have hno : dpOk s n = false := by rw [HK.out]; exact decide_eq_false hbad
      have HO := hide hno
      have HY := hide (dp_no hno)
      clear hno
      rcases (show 15 < A ∨ (A ≤ 15 ∧ 40 < N) ∨ (A ≤ 15 ∧ N ≤ 40 ∧ (s.size : Int) - n - 4 < N) by omega) with g1 | ⟨g1, g2⟩ | ⟨g1, g2, g3⟩
      all_goals
        clear hbad
        go_enter Try.func74, Try.ntmps74
        go_wp2_with fail
        refine (i_GetWord_is _ _ _ _ _ _ (by omega) (by omega) (by omega) VA.out HA.out).mono ?_
        rintro e w1 ⟨rfl, rfl⟩
        go_wp2_with fail
        refine (i_GetWord_is _ _ _ _ _ _ (by omega) (by omega) (by omega) VQ.out HQ.out).mono ?_
        rintro e w1 ⟨rfl, rfl⟩
        go_wp2_with fail
        refine (i_GetWord_is _ _ _ _ _ _ (by omega) (by omega) (by omega) VN.out HN.out).mono ?_
        rintro e w1 ⟨rfl, rfl⟩
        go_wp2_with fail
        refine bodyPost_ret (v := .tuple #[.agg #[.int .i64 0, .int .i64 0, .string ⟨#[]⟩], .int .i64 0, .bool false]) (by simp [results, Try.results74, go_sem]) rfl ⟨ret_vib HY.out.1.symm HY.out.2.symm HO.out.symm, ?_⟩
        repeat (first | exact Below.refl _ _ | refine Below.drew ?_ | refine Below.setCell ?_ (by first | exact Nat.le_refl _ | (simp; done) | omega) _ | refine Below.alloc ?_ (by first | exact Nat.le_refl _ | (simp; done) | omega | (simp; omega)) _)
  · have hno : dpOk s k = false := decide_eq_false (by omega)
    have HO := hide hno
    have HY := hide (dp_no hno)
    clear hno
    rcases (show k < 0 ∨ (0 ≤ k ∧ (s.size : Int) - 4 < k) by omega) with g1 | ⟨g1, g2⟩
    all_goals
      clear h0
      go_enter Try.func74, Try.ntmps74
      go_wp2_with fail
      refine bodyPost_ret (v := .tuple #[.agg #[.int .i64 0, .int .i64 0, .string ⟨#[]⟩], .int .i64 0, .bool false]) (by simp [results, Try.results74, go_sem]) rfl ⟨ret_vib HY.out.1.symm HY.out.2.symm HO.out.symm, ?_⟩
      repeat (first | exact Below.refl _ _ | refine Below.drew ?_ | refine Below.setCell ?_ (by first | exact Nat.le_refl _ | (simp; done) | omega) _ | refine Below.alloc ?_ (by first | exact Nat.le_refl _ | (simp; done) | omega | (simp; omega)) _)
theorem getV2 (s : ByteArray) (a : Int) : getV s a 2 ≤ 65535 := by
  unfold getV
  split
  · have hv := wordVal_lt ((s.data.toList.drop a.toNat).take (2 : Int).toNat)
    have hl : ((s.data.toList.drop a.toNat).take (2 : Int).toNat).length ≤ 2 := by rw [List.length_take]; show min 2 _ ≤ 2; omega
    have hp : 256 ^ ((s.data.toList.drop a.toNat).take (2 : Int).toNat).length ≤ 256 ^ 2 := Nat.pow_le_pow_right (by decide) hl
    omega
  · omega
theorem s_GetWord_is (s : ByteArray) (a k v : Int) (r : Bool) (w : World) (hs : s.size ≤ 140737488355328) (ha : -9223372036854775808 ≤ a) (ha' : a ≤ 9223372036854775807) (hv : getV s a k = v) (hr : getOk s a k = r) :
    Calls Try.prog 82 #[.string s, .int .i64 a, .int .i64 k] w fun e w' => e = .returned (.tuple #[.int .i64 v, .bool r]) ∧ w = w' := by
  subst hv; subst hr; exact s_GetWord s a k w hs ha ha'
set_option maxHeartbeats 1600000 in
theorem s_DecodePacket (s : ByteArray) (k : Int) (w : World) (hs : s.size ≤ 1099511627776) (hk : -9223372036854775808 ≤ k) (hk' : k ≤ 9223372036854775807) :
    Calls Try.prog 70 #[.string s, .int .i64 k] w fun e w' => e = .returned (.tuple #[dpV s k, .int .i64 (dpL s k), .bool (dpOk s k)]) ∧ Below w.heap.size w w' := by
  by_cases h0 : 0 ≤ k ∧ k + 1 ≤ s.size
  · obtain ⟨h1, h2⟩ := h0
    obtain ⟨n, rfl⟩ := Int.eq_ofNat_of_zero_le h1
    have ra := getV_range s n 1
    have rq := getV_range s (n + 1) 2
    have rq2 := getV2 s (n + 1)
    have rn := getV_range s (n + 3) 1
    have HA := hide (show getOk s n 1 = true from decide_eq_true (by omega))
    have ra0 := ra.1
    have ra1 := ra.2
    have rq0 := rq.1
    have rn0 := rn.1
    have rn1 := rn.2
    have dA := hide (show dpA s n = getV s n 1 from rfl)
    have dQ := hide (show dpQ s n = getV s (n + 1) 2 from rfl)
    have dN := hide (show dpN s n = getV s (n + 3) 1 from rfl)
    have HK := hide (show dpOk s n = decide ((n : Int) + 4 ≤ s.size ∧ getV s n 1 ≤ 15 ∧ getV s (n + 3) 1 ≤ 40 ∧ getV s (n + 3) 1 ≤ s.size - n - 4) by
      unfold dpOk; rw [dA.out, dN.out]; apply decide_eq_decide.2; omega)
    have hD := hide (show dpD s n = s.extract (n + 4) (n + 4 + (getV s (n + 3) 1).toNat) from rfl)
    clear ra rq rn
    obtain ⟨A, hA⟩ : ∃ A, getV s n 1 = A := ⟨_, rfl⟩
    obtain ⟨Q, hQ⟩ : ∃ Q, getV s (n + 1) 2 = Q := ⟨_, rfl⟩
    obtain ⟨N, hN⟩ : ∃ N, getV s (n + 3) 1 = N := ⟨_, rfl⟩
    rw [hA] at ra0 ra1 dA HK
    rw [hQ] at rq0 rq2 dQ
    rw [hN] at rn0 rn1 dN HK hD
    have VA := hide hA
    have VQ := hide hQ
    have VN := hide hN
    clear hA hQ hN
    by_cases h4 : (n : Int) + 4 ≤ s.size
    · have HQ := hide (show getOk s (n + 1) 2 = true from decide_eq_true (by omega))
      have HN := hide (show getOk s (n + 3) 1 = true from decide_eq_true (by omega))
      by_cases hfit : N ≤ s.size - n - 4
      · obtain ⟨m, rfl⟩ := Int.eq_ofNat_of_zero_le rn0
        have hDz : (s.extract (n + 4) (n + 4 + m)).size = m := by rw [ByteArray.size_extract]; omega
        have hDz' : (s.extract (n + 4) (n + 4 + m)).size ≤ 1099511627776 := by omega
        have hpk : pktOk A Q (s.extract (n + 4) (n + 4 + m)) = dpOk s n := by
          rw [HK.out]
          unfold pktOk inR
          rw [hDz]
          rw [Bool.eq_iff_iff]
          simp only [Bool.and_eq_true, decide_eq_true_eq]
          omega
        cases hok : dpOk s n with
        | true =>
          have HP := hide (hpk.trans hok)
          have HO := hide hok
          have HY := hide (dp_yes hok)
          clear hok hpk hDz
          go_enter Try.func70, Try.ntmps70
          go_wp2_with fail
          refine (s_GetWord_is _ _ _ _ _ _ (by omega) (by omega) (by omega) VA.out HA.out).mono ?_
          rintro e w1 ⟨rfl, rfl⟩
          go_wp2_with fail
          refine (s_GetWord_is _ _ _ _ _ _ (by omega) (by omega) (by omega) VQ.out HQ.out).mono ?_
          rintro e w1 ⟨rfl, rfl⟩
          go_wp2_with fail
          refine (s_GetWord_is _ _ _ _ _ _ (by omega) (by omega) (by omega) VN.out HN.out).mono ?_
          rintro e w1 ⟨rfl, rfl⟩
          go_wp2_with fail
          refine (s_PacketOk_is _ _ _ _ _ hDz' HP.out).mono ?_
          rintro e w1 ⟨rfl, hb⟩
          obtain ⟨hc, hf⟩ := bc2 hb
          have hz1 := hb.size
          have hz2 : w.heap.size + 2 ≤ w1.heap.size := by simpa using hz1
          have hy1 : w.heap.size < w1.heap.size := by omega
          have hy2 : w.heap.size + 1 < w1.heap.size := by omega
          have c0 : w1.cell? ⟨w.heap.size, 0, none⟩ = some (.int .i64 0) := box_cell (box_below hb) 0
          have c1 : w1.cell? ⟨w.heap.size, 1, none⟩ = some (.int .i64 0) := box_cell (box_below hb) 1
          have c2 : w1.cell? ⟨w.heap.size, 2, none⟩ = some (.string ⟨#[]⟩) := box_cell (box_below hb) 2
          have HB := hide hb
          clear hb hz1
          go_wp2_with fail
          have hfin : dpV s n = .agg #[.int .i64 A, .int .i64 Q, .string (s.extract (n + 4) (n + 4 + m))] ∧ dpL s n = 4 + (m : Int) := by
            rw [HY.out.1, HY.out.2, dA.out, dQ.out, dN.out, hD.out, Int.toNat_natCast]; exact ⟨rfl, rfl⟩
          refine bodyPost_ret (v := .tuple #[.agg #[.int .i64 A, .int .i64 Q, .string (s.extract (n + 4) (n + 4 + m))], .int .i64 (4 + (m : Int)), .bool true]) (by simp [results, Try.results70, go_sem, c0, c1, c2]) rfl ⟨ret_vib hfin.1.symm hfin.2.symm rfl, ?_⟩
          exact (((box_below (box_below HB.out)).setCell (Nat.le_refl _) _).setCell (Nat.le_refl _) _).setCell (Nat.le_refl _) _
        | false =>
          have HP := hide (hpk.trans hok)
          have HO := hide hok
          have HY := hide (dp_no hok)
          clear hok hpk hDz
          go_enter Try.func70, Try.ntmps70
          go_wp2_with fail
          refine (s_GetWord_is _ _ _ _ _ _ (by omega) (by omega) (by omega) VA.out HA.out).mono ?_
          rintro e w1 ⟨rfl, rfl⟩
          go_wp2_with fail
          refine (s_GetWord_is _ _ _ _ _ _ (by omega) (by omega) (by omega) VQ.out HQ.out).mono ?_
          rintro e w1 ⟨rfl, rfl⟩
          go_wp2_with fail
          refine (s_GetWord_is _ _ _ _ _ _ (by omega) (by omega) (by omega) VN.out HN.out).mono ?_
          rintro e w1 ⟨rfl, rfl⟩
          go_wp2_with fail
          refine (s_PacketOk_is _ _ _ _ _ hDz' HP.out).mono ?_
          rintro e w1 ⟨rfl, hb⟩
          obtain ⟨hc, hf⟩ := bc2 hb
          have hz1 := hb.size
          have hz2 : w.heap.size + 2 ≤ w1.heap.size := by simpa using hz1
          have hy1 : w.heap.size < w1.heap.size := by omega
          have hy2 : w.heap.size + 1 < w1.heap.size := by omega
          have c0 : w1.cell? ⟨w.heap.size, 0, none⟩ = some (.int .i64 0) := box_cell (box_below hb) 0
          have c1 : w1.cell? ⟨w.heap.size, 1, none⟩ = some (.int .i64 0) := box_cell (box_below hb) 1
          have c2 : w1.cell? ⟨w.heap.size, 2, none⟩ = some (.string ⟨#[]⟩) := box_cell (box_below hb) 2
          have HB := hide hb
          clear hb hz1
          go_wp2_with fail
          refine bodyPost_ret (v := .tuple #[.agg #[.int .i64 0, .int .i64 0, .string ⟨#[]⟩], .int .i64 0, .bool false]) (by simp [results, Try.results70, go_sem, c0, c1, c2]) rfl ⟨ret_vib HY.out.1.symm HY.out.2.symm rfl, ?_⟩
          exact (((box_below (box_below HB.out)).setCell (Nat.le_refl _) _).setCell (Nat.le_refl _) _).setCell (Nat.le_refl _) _
      · have hno : dpOk s n = false := by rw [HK.out]; exact decide_eq_false (by omega)
        have HO := hide hno
        have HY := hide (dp_no hno)
        have hfit' : (s.size : Int) - n - 4 < N := by omega
        clear hno hfit
        go_enter Try.func70, Try.ntmps70
        go_wp2_with fail
        refine (s_GetWord_is _ _ _ _ _ _ (by omega) (by omega) (by omega) VA.out HA.out).mono ?_
        rintro e w1 ⟨rfl, rfl⟩
        go_wp2_with fail
        refine (s_GetWord_is _ _ _ _ _ _ (by omega) (by omega) (by omega) VQ.out HQ.out).mono ?_
        rintro e w1 ⟨rfl, rfl⟩
        go_wp2_with fail
        refine (s_GetWord_is _ _ _ _ _ _ (by omega) (by omega) (by omega) VN.out HN.out).mono ?_
        rintro e w1 ⟨rfl, rfl⟩
        go_wp2_with fail
        refine bodyPost_ret (v := .tuple #[.agg #[.int .i64 0, .int .i64 0, .string ⟨#[]⟩], .int .i64 0, .bool false]) (by simp [results, Try.results70, go_sem]) rfl ⟨ret_vib HY.out.1.symm HY.out.2.symm HO.out.symm, ?_⟩
        repeat (first | exact Below.refl _ _ | refine Below.drew ?_ | refine Below.setCell ?_ (by first | exact Nat.le_refl _ | (simp; done) | omega) _ | refine Below.alloc ?_ (by first | exact Nat.le_refl _ | (simp; done) | omega | (simp; omega)) _)
    · have hno : dpOk s n = false := by rw [HK.out]; exact decide_eq_false (by omega)
      have HO := hide hno
      have HY := hide (dp_no hno)
      have HN := hide (show getOk s (n + 3) 1 = false from decide_eq_false (by omega))
      cases hq : getOk s (n + 1) 2 with
      | false =>
        have HQ := hide hq
        clear hno hq
        go_enter Try.func70, Try.ntmps70
        go_wp2_with fail
        refine (s_GetWord_is _ _ _ _ _ _ (by omega) (by omega) (by omega) VA.out HA.out).mono ?_
        rintro e w1 ⟨rfl, rfl⟩
        go_wp2_with fail
        refine (s_GetWord_is _ _ _ _ _ _ (by omega) (by omega) (by omega) VQ.out HQ.out).mono ?_
        rintro e w1 ⟨rfl, rfl⟩
        go_wp2_with fail
        refine (s_GetWord_is _ _ _ _ _ _ (by omega) (by omega) (by omega) VN.out HN.out).mono ?_
        rintro e w1 ⟨rfl, rfl⟩
        go_wp2_with fail
        refine bodyPost_ret (v := .tuple #[.agg #[.int .i64 0, .int .i64 0, .string ⟨#[]⟩], .int .i64 0, .bool false]) (by simp [results, Try.results70, go_sem]) rfl ⟨ret_vib HY.out.1.symm HY.out.2.symm HO.out.symm, ?_⟩
        repeat (first | exact Below.refl _ _ | refine Below.drew ?_ | refine Below.setCell ?_ (by first | exact Nat.le_refl _ | (simp; done) | omega) _ | refine Below.alloc ?_ (by first | exact Nat.le_refl _ | (simp; done) | omega | (simp; omega)) _)
      | true =>
        have HQ := hide hq
        clear hno hq
        go_enter Try.func70, Try.ntmps70
        go_wp2_with fail
        refine (s_GetWord_is _ _ _ _ _ _ (by omega) (by omega) (by omega) VA.out HA.out).mono ?_
        rintro e w1 ⟨rfl, rfl⟩
        go_wp2_with fail
        refine (s_GetWord_is _ _ _ _ _ _ (by omega) (by omega) (by omega) VQ.out HQ.out).mono ?_
        rintro e w1 ⟨rfl, rfl⟩
        go_wp2_with fail
        refine (s_GetWord_is _ _ _ _ _ _ (by omega) (by omega) (by omega) VN.out HN.out).mono ?_
        rintro e w1 ⟨rfl, rfl⟩
        go_wp2_with fail
        refine bodyPost_ret (v := .tuple #[.agg #[.int .i64 0, .int .i64 0, .string ⟨#[]⟩], .int .i64 0, .bool false]) (by simp [results, Try.results70, go_sem]) rfl ⟨ret_vib HY.out.1.symm HY.out.2.symm HO.out.symm, ?_⟩
        repeat (first | exact Below.refl _ _ | refine Below.drew ?_ | refine Below.setCell ?_ (by first | exact Nat.le_refl _ | (simp; done) | omega) _ | refine Below.alloc ?_ (by first | exact Nat.le_refl _ | (simp; done) | omega | (simp; omega)) _)
  · have hno : dpOk s k = false := decide_eq_false (by omega)
    have HO := hide hno
    have HY := hide (dp_no hno)
    have ha : getOk s k 1 = false := decide_eq_false (by omega)
    have HA := hide ha
    have HV := hide (getV_no ha)
    clear hno ha
    go_enter Try.func70, Try.ntmps70
    go_wp2_with fail
    refine (s_GetWord_is _ _ _ _ _ _ (by omega) hk hk' HV.out HA.out).mono ?_
    rintro e w1 ⟨rfl, rfl⟩
    go_wp2_with fail
    refine bodyPost_ret (v := .tuple #[.agg #[.int .i64 0, .int .i64 0, .string ⟨#[]⟩], .int .i64 0, .bool false]) (by simp [results, Try.results70, go_sem]) rfl ⟨ret_vib HY.out.1.symm HY.out.2.symm HO.out.symm, ?_⟩
    repeat (first | exact Below.refl _ _ | refine Below.drew ?_ | refine Below.setCell ?_ (by first | exact Nat.le_refl _ | (simp; done) | omega) _ | refine Below.alloc ?_ (by first | exact Nat.le_refl _ | (simp; done) | omega | (simp; omega)) _)
end Go.Proofs.Ytnelfadmcpacbaa
