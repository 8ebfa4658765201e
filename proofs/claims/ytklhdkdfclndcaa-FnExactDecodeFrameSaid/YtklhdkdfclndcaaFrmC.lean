/- What DecodeFrame and DecodePacket return, in the program and in the reference, for strings of at most 2^46 bytes. -/
import Derived.Test.YtklhdkdfclndcaaFrmB
namespace Go.Proofs.Ytklhdkdfclndcaa
open Go.RowKit Sat
set_option linter.unusedVariables false
set_option linter.unusedSimpArgs false

def dfT (s : ByteArray) : ByteArray := str (openT s.data.toList)
def tB (t : ByteArray) (j : Nat) : Int := (t.data.toList.getD j 0).toNat
def dfOk (s : ByteArray) : Bool := openOk s.data.toList && decide ((dfT s).size = 27) && frmOk (tB (dfT s) 0) (tB (dfT s) 1) (tB (dfT s) 2) ((dfT s).extract 3 (dfT s).size)
def dfV (s : ByteArray) : Value := if dfOk s then .agg #[.int .i64 (tB (dfT s) 0), .int .i64 (tB (dfT s) 1), .int .i64 (tB (dfT s) 2), .string ((dfT s).extract 3 (dfT s).size)] else .agg #[.int .i64 0, .int .i64 0, .int .i64 0, .string ⟨#[]⟩]
theorem dfV_no {s : ByteArray} (h : dfOk s = false) : dfV s = .agg #[.int .i64 0, .int .i64 0, .int .i64 0, .string ⟨#[]⟩] := by unfold dfV; rw [h]; rfl
theorem dfV_yes {s : ByteArray} (h : dfOk s = true) : dfV s = .agg #[.int .i64 (tB (dfT s) 0), .int .i64 (tB (dfT s) 1), .int .i64 (tB (dfT s) 2), .string ((dfT s).extract 3 (dfT s).size)] := by unfold dfV; rw [if_pos h]
theorem tB_at (t : ByteArray) (j : Nat) (h : j < t.size) : ((t[j]'h).toNat : Int) = tB t j := by
  unfold tB; rw [List.getD_eq_getElem?_getD, List.getElem?_eq_getElem (by simpa using h)]; rfl
theorem tB_wrap (t : ByteArray) (j : Nat) : wrap64 (tB t j) = tB t j := by
  have h : (t.data.toList.getD j 0).toNat < 256 := UInt8.toNat_lt _
  unfold wrap64 tB; omega
theorem ret_vb {a b : Value} {c d : Bool} (h : a = b) (h' : c = d) : Ending.returned (.tuple #[a, .bool c]) = .returned (.tuple #[b, .bool d]) := by rw [h, h']
theorem openT_le (l : List UInt8) : (openT l).length ≤ l.length := by
  unfold openT; split
  · rw [List.length_take]; omega
  · simp
theorem i_OpenText_is (s t : ByteArray) (r : Bool) (w : World) (hs : s.size ≤ 70368744177664) (h : str (openT s.data.toList) = t) (h2 : openOk s.data.toList = r) :
    Calls Try.prog 54 #[.string s] w fun e w' => e = .returned (.tuple #[.string t, .bool r]) ∧ Below w.heap.size w w' := by
  subst h; subst h2; exact i_OpenText s w hs
set_option maxHeartbeats 1600000 in
theorem i_DecodeFrame (s : ByteArray) (w : World) (hs : s.size ≤ 1099511627776) :
    Calls Try.prog 46 #[.string s] w fun e w' => e = .returned (.tuple #[dfV s, .bool (dfOk s)]) ∧ Below w.heap.size w w' := by
  obtain ⟨t, ht⟩ : ∃ t, str (openT s.data.toList) = t := ⟨_, rfl⟩
  have htz : t.size ≤ 1099511627776 := by rw [← ht, str_size]; have := openT_le s.data.toList; have : s.data.toList.length = s.size := by simp
                                          omega
  have hT : dfT s = t := ht
  cases ho : openOk s.data.toList with
  | false =>
    have HN := hide (show dfOk s = false by unfold dfOk; rw [ho]; rfl)
    have HO := hide ho
    have HT := hide ht
    clear ho ht hT
    go_enter Try.func46, Try.ntmps46
    go_wp2_with fail
    refine (i_OpenText_is _ _ _ _ (by omega) HT.out HO.out).mono ?_
    rintro e w1 ⟨rfl, hb⟩
    obtain ⟨hc, hf⟩ := bc2 hb
    have hz1 := hb.size
    simp only [World.size_alloc] at hz1
    have hy1 : w.heap.size < w1.heap.size := by omega
    have HB := hide hb
    clear hb
    go_wp2_with fail
    refine bodyPost_ret (v := .tuple #[.agg #[.int .i64 0, .int .i64 0, .int .i64 0, .string ⟨#[]⟩], .bool false]) (by simp [results, Try.results46, go_sem, hc, hf, hy1]) rfl ⟨ret_vb (dfV_no HN.out).symm HN.out.symm, (by repeat (first | exact box_below HB.out | exact Below.refl _ _ | refine Below.drew ?_ | refine Below.setCell ?_ (by first | exact Nat.le_refl _ | (simp; done) | omega | (simp; omega)) _ | refine Below.alloc ?_ (by first | exact Nat.le_refl _ | (simp; done) | omega | (simp; omega)) _))⟩
  | true =>
    by_cases h27 : t.size = 27
    · have e27 : ((t.size : Int) == 27) = true := beq_iff_eq.2 (by omega)
      have e27' : ((t.size : Int) != 27) = false := by rw [bne, e27]; rfl
      have l0 : 0 < t.size := by omega
      have l1 : 1 < t.size := by omega
      have l2 : 2 < t.size := by omega
      have l3 : 3 ≤ t.size := by omega
      have i0 : (0 : Int) < (t.size : Int) := by omega
      have i1 : (1 : Int) < (t.size : Int) := by omega
      have i2 : (2 : Int) < (t.size : Int) := by omega
      have i3 : (3 : Int) ≤ (t.size : Int) := by omega
      have b0 := tB_at t 0 l0
      have b1 := tB_at t 1 l1
      have b2 := tB_at t 2 l2
      have B0 := hide b0
      have B1 := hide b1
      have B2 := hide b2
      have hx : (t.extract 3 t.size).size ≤ 1099511627776 := by rw [ByteArray.size_extract]; omega
      have HD := hide (show dfOk s = frmOk (tB t 0) (tB t 1) (tB t 2) (t.extract 3 t.size) by unfold dfOk; rw [ho, hT, decide_eq_true h27]; rfl)
      have HV := hide (fun h => dfV_yes (s := s) h)
      rw [hT] at HV
      have HO := hide ho
      have HT := hide ht
      clear ho ht hT h27 e27 b0 b1 b2
      go_enter Try.func46, Try.ntmps46
      go_wp2_with fail
      refine (i_OpenText_is _ _ _ _ (by omega) HT.out HO.out).mono ?_
      rintro e w1 ⟨rfl, hb⟩
      obtain ⟨hc, hf⟩ := bc2 hb
      have hz1 := hb.size
      simp only [World.size_alloc] at hz1
      have hy1 : w.heap.size < w1.heap.size := by omega
      have HB := hide hb
      clear hb
      go_wp2_with fail
      go_region
      go_wp2_with fail
      rw [B0.out, B1.out, B2.out, tB_wrap t 0, tB_wrap t 1, tB_wrap t 2]
      cases hfo : frmOk (tB t 0) (tB t 1) (tB t 2) (t.extract 3 t.size) with
      | false =>
        have HFO := hide hfo
        have HN := hide (HD.out.trans hfo)
        clear hfo HD HV
        refine (i_FrameOk_is _ _ _ _ _ _ hx HFO.out).mono ?_
        rintro e w2 ⟨rfl, hb2⟩
        obtain ⟨hc2, hf2⟩ := bc2 hb2
        have hz2 : w1.heap.size + 1 ≤ w2.heap.size := by have := hb2.size; simpa using this
        have hy4 : w.heap.size < w1.heap.size + 1 := by omega
        have hy2 : w.heap.size < w2.heap.size := by omega
        have HB2 := hide hb2
        clear hb2
        go_wp2_with fail
        refine bodyPost_ret (v := .tuple #[.agg #[.int .i64 0, .int .i64 0, .int .i64 0, .string ⟨#[]⟩], .bool false]) (by simp [results, Try.results46, go_sem, hc, hf, hy1, hc2, hf2, hy2, hy4]) rfl ⟨ret_vb (dfV_no HN.out).symm HN.out.symm, ?_⟩
        exact ((((((((box_below HB.out).alloc (by omega) _).drew).trans (HB2.out.mono (by simp; omega)))).setCell (Nat.le_refl _) _).setCell (Nat.le_refl _) _).setCell (Nat.le_refl _) _).setCell (Nat.le_refl _) _
      | true =>
        have HFO := hide hfo
        have HN := hide (HD.out.trans hfo)
        have HVV := hide (HV.out HN.out)
        clear hfo HD HV
        refine (i_FrameOk_is _ _ _ _ _ _ hx HFO.out).mono ?_
        rintro e w2 ⟨rfl, hb2⟩
        obtain ⟨hc2, hf2⟩ := bc2 hb2
        have hz2 : w1.heap.size + 1 ≤ w2.heap.size := by have := hb2.size; simpa using this
        have hy4 : w.heap.size < w1.heap.size + 1 := by omega
        have hy2 : w.heap.size < w2.heap.size := by omega
        have hy3 : w1.heap.size < w2.heap.size := by omega
        have HB2 := hide hb2
        clear hb2
        go_wp2_with fail
        refine bodyPost_ret (v := .tuple #[.agg #[.int .i64 (tB t 0), .int .i64 (tB t 1), .int .i64 (tB t 2), .string (t.extract 3 t.size)], .bool true]) (by simp [results, Try.results46, go_sem, hc, hf, hy1, hc2, hf2, hy2, hy3, hy4]) rfl ⟨ret_vb HVV.out.symm HN.out.symm, ?_⟩
        exact ((((((((box_below HB.out).alloc (by omega) _).drew).trans (HB2.out.mono (by simp; omega)))).setCell (Nat.le_refl _) _).setCell (Nat.le_refl _) _).setCell (Nat.le_refl _) _).setCell (Nat.le_refl _) _
    · have e27 : ((t.size : Int) == 27) = false := beq_eq_false_iff_ne.2 (by omega)
      have e27' : ((t.size : Int) != 27) = true := by rw [bne, e27]; rfl
      have HN := hide (show dfOk s = false by unfold dfOk; rw [hT, decide_eq_false h27]; simp)
      have HO := hide ho
      have HT := hide ht
      clear ho ht hT h27 e27
      go_enter Try.func46, Try.ntmps46
      go_wp2_with fail
      refine (i_OpenText_is _ _ _ _ (by omega) HT.out HO.out).mono ?_
      rintro e w1 ⟨rfl, hb⟩
      obtain ⟨hc, hf⟩ := bc2 hb
      have hz1 := hb.size
      simp only [World.size_alloc] at hz1
      have hy1 : w.heap.size < w1.heap.size := by omega
      have HB := hide hb
      clear hb
      go_wp2_with fail
      refine bodyPost_ret (v := .tuple #[.agg #[.int .i64 0, .int .i64 0, .int .i64 0, .string ⟨#[]⟩], .bool false]) (by simp [results, Try.results46, go_sem, hc, hf, hy1]) rfl ⟨ret_vb (dfV_no HN.out).symm HN.out.symm, (by repeat (first | exact box_below HB.out | exact Below.refl _ _ | refine Below.drew ?_ | refine Below.setCell ?_ (by first | exact Nat.le_refl _ | (simp; done) | omega | (simp; omega)) _ | refine Below.alloc ?_ (by first | exact Nat.le_refl _ | (simp; done) | omega | (simp; omega)) _))⟩
theorem s_OpenText_is (s t : ByteArray) (r : Bool) (w : World) (hs : s.size ≤ 70368744177664) (h : str (openT s.data.toList) = t) (h2 : openOk s.data.toList = r) :
    Calls Try.prog 86 #[.string s] w fun e w' => e = .returned (.tuple #[.string t, .bool r]) ∧ Below w.heap.size w w' := by
  subst h; subst h2; exact s_OpenText s w hs
set_option maxHeartbeats 1600000 in
theorem s_DecodeFrame (s : ByteArray) (w : World) (hs : s.size ≤ 1099511627776) :
    Calls Try.prog 45 #[.string s] w fun e w' => e = .returned (.tuple #[dfV s, .bool (dfOk s)]) ∧ Below w.heap.size w w' := by
  obtain ⟨t, ht⟩ : ∃ t, str (openT s.data.toList) = t := ⟨_, rfl⟩
  have htz : t.size ≤ 1099511627776 := by rw [← ht, str_size]; have := openT_le s.data.toList; have : s.data.toList.length = s.size := by simp
                                          omega
  have hT : dfT s = t := ht
  cases ho : openOk s.data.toList with
  | false =>
    have HN := hide (show dfOk s = false by unfold dfOk; rw [ho]; rfl)
    have HO := hide ho
    have HT := hide ht
    clear ho ht hT
    go_enter Try.func45, Try.ntmps45
    go_wp2_with fail
    refine (s_OpenText_is _ _ _ _ (by omega) HT.out HO.out).mono ?_
    rintro e w1 ⟨rfl, hb⟩
    obtain ⟨hc, hf⟩ := bc2 hb
    have hz1 := hb.size
    simp only [World.size_alloc] at hz1
    have hy1 : w.heap.size < w1.heap.size := by omega
    have HB := hide hb
    clear hb
    go_wp2_with fail
    refine bodyPost_ret (v := .tuple #[.agg #[.int .i64 0, .int .i64 0, .int .i64 0, .string ⟨#[]⟩], .bool false]) (by simp [results, Try.results45, go_sem, hc, hf, hy1]) rfl ⟨ret_vb (dfV_no HN.out).symm HN.out.symm, (by repeat (first | exact box_below HB.out | exact Below.refl _ _ | refine Below.drew ?_ | refine Below.setCell ?_ (by first | exact Nat.le_refl _ | (simp; done) | omega | (simp; omega)) _ | refine Below.alloc ?_ (by first | exact Nat.le_refl _ | (simp; done) | omega | (simp; omega)) _))⟩
  | true =>
    by_cases h27 : t.size = 27
    · have e27 : ((t.size : Int) == 27) = true := beq_iff_eq.2 (by omega)
      have e27' : ((t.size : Int) != 27) = false := by rw [bne, e27]; rfl
      have l0 : 0 < t.size := by omega
      have l1 : 1 < t.size := by omega
      have l2 : 2 < t.size := by omega
      have l3 : 3 ≤ t.size := by omega
      have i0 : (0 : Int) < (t.size : Int) := by omega
      have i1 : (1 : Int) < (t.size : Int) := by omega
      have i2 : (2 : Int) < (t.size : Int) := by omega
      have i3 : (3 : Int) ≤ (t.size : Int) := by omega
      have b0 := tB_at t 0 l0
      have b1 := tB_at t 1 l1
      have b2 := tB_at t 2 l2
      have B0 := hide b0
      have B1 := hide b1
      have B2 := hide b2
      have hx : (t.extract 3 t.size).size ≤ 1099511627776 := by rw [ByteArray.size_extract]; omega
      have HD := hide (show dfOk s = frmOk (tB t 0) (tB t 1) (tB t 2) (t.extract 3 t.size) by unfold dfOk; rw [ho, hT, decide_eq_true h27]; rfl)
      have HV := hide (fun h => dfV_yes (s := s) h)
      rw [hT] at HV
      have HO := hide ho
      have HT := hide ht
      clear ho ht hT h27 e27 b0 b1 b2
      go_enter Try.func45, Try.ntmps45
      go_wp2_with fail
      refine (s_OpenText_is _ _ _ _ (by omega) HT.out HO.out).mono ?_
      rintro e w1 ⟨rfl, hb⟩
      obtain ⟨hc, hf⟩ := bc2 hb
      have hz1 := hb.size
      simp only [World.size_alloc] at hz1
      have hy1 : w.heap.size < w1.heap.size := by omega
      have HB := hide hb
      clear hb
      go_wp2_with fail
      go_region
      go_wp2_with fail
      rw [B0.out, B1.out, B2.out, tB_wrap t 0, tB_wrap t 1, tB_wrap t 2]
      cases hfo : frmOk (tB t 0) (tB t 1) (tB t 2) (t.extract 3 t.size) with
      | false =>
        have HFO := hide hfo
        have HN := hide (HD.out.trans hfo)
        clear hfo HD HV
        refine (s_FrameOk_is _ _ _ _ _ _ hx HFO.out).mono ?_
        rintro e w2 ⟨rfl, hb2⟩
        obtain ⟨hc2, hf2⟩ := bc2 hb2
        have hz2 : w1.heap.size + 1 ≤ w2.heap.size := by have := hb2.size; simpa using this
        have hy4 : w.heap.size < w1.heap.size + 1 := by omega
        have hy2 : w.heap.size < w2.heap.size := by omega
        have HB2 := hide hb2
        clear hb2
        go_wp2_with fail
        refine bodyPost_ret (v := .tuple #[.agg #[.int .i64 0, .int .i64 0, .int .i64 0, .string ⟨#[]⟩], .bool false]) (by simp [results, Try.results45, go_sem, hc, hf, hy1, hc2, hf2, hy2, hy4]) rfl ⟨ret_vb (dfV_no HN.out).symm HN.out.symm, ?_⟩
        exact ((((((((box_below HB.out).alloc (by omega) _).drew).trans (HB2.out.mono (by simp; omega)))).setCell (Nat.le_refl _) _).setCell (Nat.le_refl _) _).setCell (Nat.le_refl _) _).setCell (Nat.le_refl _) _
      | true =>
        have HFO := hide hfo
        have HN := hide (HD.out.trans hfo)
        have HVV := hide (HV.out HN.out)
        clear hfo HD HV
        refine (s_FrameOk_is _ _ _ _ _ _ hx HFO.out).mono ?_
        rintro e w2 ⟨rfl, hb2⟩
        obtain ⟨hc2, hf2⟩ := bc2 hb2
        have hz2 : w1.heap.size + 1 ≤ w2.heap.size := by have := hb2.size; simpa using this
        have hy4 : w.heap.size < w1.heap.size + 1 := by omega
        have hy2 : w.heap.size < w2.heap.size := by omega
        have hy3 : w1.heap.size < w2.heap.size := by omega
        have HB2 := hide hb2
        clear hb2
        go_wp2_with fail
        refine bodyPost_ret (v := .tuple #[.agg #[.int .i64 (tB t 0), .int .i64 (tB t 1), .int .i64 (tB t 2), .string (t.extract 3 t.size)], .bool true]) (by simp [results, Try.results45, go_sem, hc, hf, hy1, hc2, hf2, hy2, hy3, hy4]) rfl ⟨ret_vb HVV.out.symm HN.out.symm, ?_⟩
        exact ((((((((box_below HB.out).alloc (by omega) _).drew).trans (HB2.out.mono (by simp; omega)))).setCell (Nat.le_refl _) _).setCell (Nat.le_refl _) _).setCell (Nat.le_refl _) _).setCell (Nat.le_refl _) _
    · have e27 : ((t.size : Int) == 27) = false := beq_eq_false_iff_ne.2 (by omega)
      have e27' : ((t.size : Int) != 27) = true := by rw [bne, e27]; rfl
      have HN := hide (show dfOk s = false by unfold dfOk; rw [hT, decide_eq_false h27]; simp)
      have HO := hide ho
      have HT := hide ht
      clear ho ht hT h27 e27
      go_enter Try.func45, Try.ntmps45
      go_wp2_with fail
      refine (s_OpenText_is _ _ _ _ (by omega) HT.out HO.out).mono ?_
      rintro e w1 ⟨rfl, hb⟩
      obtain ⟨hc, hf⟩ := bc2 hb
      have hz1 := hb.size
      simp only [World.size_alloc] at hz1
      have hy1 : w.heap.size < w1.heap.size := by omega
      have HB := hide hb
      clear hb
      go_wp2_with fail
      refine bodyPost_ret (v := .tuple #[.agg #[.int .i64 0, .int .i64 0, .int .i64 0, .string ⟨#[]⟩], .bool false]) (by simp [results, Try.results45, go_sem, hc, hf, hy1]) rfl ⟨ret_vb (dfV_no HN.out).symm HN.out.symm, (by repeat (first | exact box_below HB.out | exact Below.refl _ _ | refine Below.drew ?_ | refine Below.setCell ?_ (by first | exact Nat.le_refl _ | (simp; done) | omega | (simp; omega)) _ | refine Below.alloc ?_ (by first | exact Nat.le_refl _ | (simp; done) | omega | (simp; omega)) _))⟩
theorem dfV_form (s : ByteArray) : ∃ (c n f : Int) (d : ByteArray), dfV s = .agg #[.int .i64 c, .int .i64 n, .int .i64 f, .string d] := by
  unfold dfV; split
  · exact ⟨_, _, _, _, rfl⟩
  · exact ⟨_, _, _, _, rfl⟩
end Go.Proofs.Ytklhdkdfclndcaa
