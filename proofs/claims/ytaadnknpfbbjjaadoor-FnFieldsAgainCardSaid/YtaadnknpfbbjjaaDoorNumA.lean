/- What FormatInt returns in the reference for every int, and what ParseUint returns, in the program and in the reference, for strings of at most 2^40 bytes. -/
import Derived.Test.YtaadnknpfbbjjaaDoorHexA
import Derived.Test.YtaadnknpfbbjjaaDoorOwn
import Derived.Test.YtaadnknpfbbjjaaDoorPlNum
namespace Go.Proofs.YtaadnknpfbbjjaaDoor
open Go.RowKit Sat
set_option linter.unusedVariables false

theorem s_Figure_is (x : Nat) (v : Int) (w : World) (hx : x < 10) (hv : v = (x : Int)) :
    Calls Tryd.prog 19 #[.int .i64 v] w fun e w' => e = .returned (.int .u8 ((UInt8.ofNat (48 + x)).toNat : Int)) ∧ w = w' := by
  subst hv
  have h := s_Figure (x : Int) w (by omega) (by omega)
  have e : digV (x : Int) = ((UInt8.ofNat (48 + x)).toNat : Int) := by
    unfold digV; rw [if_pos (by omega), UInt8.toNat_ofNat']; omega
  rw [e] at h; exact h
theorem one_text (wr : World) (c : UInt8) : (convert 24 9 (.slice (some ⟨wr.heap.size, 0, none⟩) 1 1)).run Tryd.prog (wr.alloc (.cells #[.int .u8 (c.toNat : Int)] 5)) = .ok (.string (str [c])) (wr.alloc (.cells #[.int .u8 (c.toNat : Int)] 5)) := by
  refine run_convert_bytes_back (P := Tryd.prog) _ 24 9 5 ⟨wr.heap.size, 0, none⟩ 1 [c] Tryd.underlying24 Tryd.underlying5 Tryd.underlying9 ?_
  intro j hj
  have : j = 0 := by simpa using hj
  subst this
  exact World.cell?_alloc_mark wr _ _ (0, 0) 0
/-- what is left to do for the digits of k, t being done -/
def DigLeft (k n : Nat) (t : List UInt8) : Prop := ∃ f, n < 10 ^ f ∧ digs f n ++ t = digs 64 k ∧ f + t.length ≤ 64
theorem DigLeft.start {k : Nat} (h : k < 10 ^ 64) : DigLeft k k [] := ⟨64, h, by simp, by simp⟩
theorem DigLeft.step {k n : Nat} {t : List UInt8} (h : DigLeft k n t) (hn : 0 < n) : DigLeft k (n / 10) (UInt8.ofNat (48 + n % 10) :: t) := by
  obtain ⟨f, h1, h2, h3⟩ := h
  cases f with
  | zero => simp at h1; omega
  | succ f =>
    refine ⟨f, by rw [Nat.pow_succ] at h1; omega, ?_, by simp; omega⟩
    rw [digs, if_neg (by omega)] at h2
    rw [← h2]; simp
theorem DigLeft.done {k : Nat} {t : List UInt8} (h : DigLeft k 0 t) : t = digs 64 k := by
  obtain ⟨f, _, h2, _⟩ := h
  rw [digs_zero] at h2
  exact h2
theorem DigLeft.len {k n : Nat} {t : List UInt8} (h : DigLeft k n t) : t.length ≤ 64 := by obtain ⟨f, _, _, h3⟩ := h; omega
set_option maxHeartbeats 1600000 in
theorem s_FormatInt_pos (k : Nat) (w : World) (h1 : 1 ≤ k) (hk : k ≤ 9223372036854775807) :
    Calls Tryd.prog 7 #[.int .i64 k] w fun e w' => e = .returned (.string (str (digs 64 k))) ∧ Below w.heap.size w w' := by
  have d0 : decide ((k : Int) < 0) = false := decide_eq_false (by omega)
  have d1 : ((k : Int) == 0) = false := beq_eq_false_iff_ne.2 (by omega)
  go_enter Tryd.func7, Tryd.ntmps7
  go_wp2_with fail
  go_loopw [0, 4] (fun kv ov wr => ∃ (n : Nat) (t : List UInt8), n ≤ k ∧ kv = .int .i64 n ∧ ov = .string (str t) ∧ Hid (DigLeft k n t) ∧ Below w.heap.size w wr) (fun kv _ _ => (intOf kv).toNat)
  case atStart => exact ⟨k, [], Nat.le_refl _, rfl, rfl, DigLeft.start (by omega), Below.refl _ _⟩
  case round =>
    obtain ⟨n, t, hn, rfl, rfl, hd, hb⟩ := hrel
    have hsz := hb.size
    by_cases hz : 0 < n
    · have hd' := hide (hd.out.step hz)
      have hl' := hd'.out.len
      have z1 : ((n : Int) != 0) = true := bne_iff_ne.2 (by omega)
      have z2 : decide ((n : Int) % 10 < 0) = false := decide_eq_false (by omega)
      go_wp2_with fail
      refine (s_Figure_is (n % 10) _ _ (by omega) (by omega)).mono ?_
      rintro e w1 ⟨rfl, rfl⟩
      generalize UInt8.ofNat (48 + n % 10) = c at *
      have hadd := fun w => run_string_add_sum (P := Tryd.prog) (w := w) (str [c]) (str t) (by rw [str_size, str_size]; simp at *; omega)
      rw [app_strs] at hadd
      change ∀ w, _ = Result.ok (Value.string (str (c :: t))) w at hadd
      have hcw := one_text wr c
      clear hd hl' z1 z2 d0 d1
      generalize hs1 : str [c] = s1 at *
      generalize hs2 : str t = s2 at *
      generalize hs3 : str (c :: t) = s3 at *
      have HS3 := hide hs3
      clear hs1 hs2 hs3
      go_wp2
      go_roundw
      case rel => exact ⟨n / 10, c :: t, by omega, by go_num, by rw [HS3.out], hd', hb.alloc hsz _⟩
      case measure => simp [intOf]; omega
    · obtain rfl : n = 0 := by omega
      have hfin := hide (hd.out.done)
      clear hd
      go_wp2
      go_ret
      exact ⟨ret_str (by rw [hfin.out]), hb⟩
theorem neg_parts (n : Nat) : (-(n : Int)).tmod 10 = -((n % 10 : Nat) : Int) ∧ (-(n : Int)).tdiv 10 = -((n / 10 : Nat) : Int) := by
  rw [Int.neg_tmod, Int.neg_tdiv]
  exact ⟨by rw [Int.tmod_eq_emod_of_nonneg (by omega)]; omega, by rw [Int.tdiv_eq_ediv_of_nonneg (by omega)]; omega⟩
set_option maxHeartbeats 1600000 in
theorem s_FormatInt_neg (k : Nat) (x0 : Int) (w : World) (h1 : 1 ≤ k) (hk : k ≤ 9223372036854775808) (hx0 : x0 = -(k : Int)) :
    Calls Tryd.prog 7 #[.int .i64 x0] w fun e w' => e = .returned (.string (str (45 :: digs 64 k))) ∧ Below w.heap.size w w' := by
  have d0 : decide (x0 < 0) = true := decide_eq_true (by omega)
  have d1 : (x0 == 0) = false := beq_eq_false_iff_ne.2 (by omega)
  have HX := hide hx0
  clear hx0
  go_enter Tryd.func7, Tryd.ntmps7
  go_wp2_with fail
  go_loopw [0, 4] (fun kv ov wr => ∃ (n : Nat) (x : Int) (t : List UInt8), n ≤ k ∧ kv = .int .i64 x ∧ Hid (x = -(n : Int)) ∧ ov = .string (str t) ∧ Hid (DigLeft k n t) ∧ Below w.heap.size w wr) (fun kv _ _ => (intOf kv).natAbs)
  case atStart => exact ⟨k, x0, [], Nat.le_refl _, rfl, HX.out, rfl, DigLeft.start (by omega), Below.refl _ _⟩
  case round =>
    obtain ⟨n, x, t, hn, rfl, hx, rfl, hd, hb⟩ := hrel
    have hsz := hb.size
    have hxx := hx.out
    by_cases hz : 0 < n
    · have hd' := hide (hd.out.step hz)
      have hl' := hd'.out.len
      have z1 : (x != 0) = true := bne_iff_ne.2 (by omega)
      obtain ⟨e1, e2⟩ := neg_parts n
      rw [← hxx] at e1 e2
      obtain ⟨y, hy⟩ : ∃ y, y = -((n % 10 : Nat) : Int) := ⟨_, rfl⟩
      obtain ⟨z, hz2⟩ : ∃ z, z = -((n / 10 : Nat) : Int) := ⟨_, rfl⟩
      rw [← hy] at e1
      rw [← hz2] at e2
      have y0 : y ≤ 0 := by omega
      have y9 : -9 ≤ y := by omega
      have z0 : z ≤ 0 := by omega
      have z9 : -922337203685477581 ≤ z := by omega
      have HZ := hide hz2
      have HY := hide hy
      have hlo : -9223372036854775808 ≤ x := by omega
      have hhi : x ≤ -1 := by omega
      clear hz2 hy hxx d0 d1
      by_cases hy0 : y < 0
      · go_wp2_with fail
        refine (s_Figure_is (n % 10) _ _ (by omega) (by have := HY.out; omega)).mono ?_
        rintro e w1 ⟨rfl, rfl⟩
        generalize UInt8.ofNat (48 + n % 10) = c at *
        have hadd := fun w => run_string_add_sum (P := Tryd.prog) (w := w) (str [c]) (str t) (by rw [str_size, str_size]; simp at *; omega)
        rw [app_strs] at hadd
        change ∀ w, _ = Result.ok (Value.string (str (c :: t))) w at hadd
        have hcw := one_text wr c
        clear hd hl' z1
        generalize hs1 : str [c] = s1 at *
        generalize hs2 : str t = s2 at *
        generalize hs3 : str (c :: t) = s3 at *
        have HS3 := hide hs3
        clear hs1 hs2 hs3
        go_wp2
        go_roundw
        case rel => exact ⟨n / 10, z, c :: t, by omega, rfl, HZ.out, by rw [HS3.out], hd', hb.alloc hsz _⟩
        case measure => have := HZ.out; have := hx.out; simp [intOf]; omega
      · have hy1 : y = 0 := by omega
        subst hy1
        go_wp2_with fail
        refine (s_Figure_is (n % 10) _ _ (by omega) (by have := HY.out; omega)).mono ?_
        rintro e w1 ⟨rfl, rfl⟩
        generalize UInt8.ofNat (48 + n % 10) = c at *
        have hadd := fun w => run_string_add_sum (P := Tryd.prog) (w := w) (str [c]) (str t) (by rw [str_size, str_size]; simp at *; omega)
        rw [app_strs] at hadd
        change ∀ w, _ = Result.ok (Value.string (str (c :: t))) w at hadd
        have hcw := one_text wr c
        clear hd hl' z1
        generalize hs1 : str [c] = s1 at *
        generalize hs2 : str t = s2 at *
        generalize hs3 : str (c :: t) = s3 at *
        have HS3 := hide hs3
        clear hs1 hs2 hs3
        go_wp2
        go_roundw
        case rel => exact ⟨n / 10, z, c :: t, by omega, rfl, HZ.out, by rw [HS3.out], hd', hb.alloc hsz _⟩
        case measure => have := HZ.out; have := hx.out; simp [intOf]; omega
    · have hx0 : x = 0 := by omega
      subst hx0
      obtain rfl : n = 0 := by omega
      have hl := hd.out.len
      have hadd := fun w => run_string_add_sum (P := Tryd.prog) (w := w) (str [45]) (str t) (by rw [str_size, str_size]; simp; omega)
      rw [app_strs] at hadd
      have hfin := hide (show str ([45] ++ t) = str (45 :: digs 64 k) by rw [hd.out.done]; rfl)
      clear hd hxx hx
      generalize str t = s2 at *
      generalize str ([45] ++ t) = s3 at *
      change ∀ w, (Op.stringOp .add ⟨#[45]⟩ s2).run Tryd.prog w = _ at hadd
      go_wp2
      go_ret
      exact ⟨ret_str hfin.out, hb⟩
set_option maxHeartbeats 400000 in
theorem s_FormatInt (n : Int) (w : World) (l : -9223372036854775808 ≤ n) (u : n ≤ 9223372036854775807) :
    Calls Tryd.prog 7 #[.int .i64 n] w fun e w' => e = .returned (.string (str (fmtI n))) ∧ Below w.heap.size w w' := by
  by_cases h0 : n < 0
  · have e : fmtI n = 45 :: digs 64 n.natAbs := by unfold fmtI; rw [if_pos h0]
    rw [e]
    exact s_FormatInt_neg n.natAbs n w (by omega) (by omega) (by omega)
  · by_cases hz : n = 0
    · subst hz
      go_enter Tryd.func7, Tryd.ntmps7
      go_wp2
      go_ret
      exact ⟨ret_str (by rfl), Below.refl _ _⟩
    · have e : fmtI n = digs 64 n.toNat := by unfold fmtI fmtN; rw [if_neg h0, if_neg (by omega)]
      have h := s_FormatInt_pos n.toNat w (by omega) (by omega)
      rw [e]
      rwa [show ((n.toNat : Nat) : Int) = n by omega] at h
/-! ### ParseUint -/
theorem take_snoc (s : ByteArray) (k : Nat) (h : k < s.size) : s.data.toList.take (k + 1) = s.data.toList.take k ++ [s[k]'h] := by
  rw [List.take_succ_eq_append_getElem (by simpa using h)]; rfl
def vTo (s : ByteArray) (k : Nat) : Nat := valL (s.data.toList.take k)
def okTo (s : ByteArray) (k : Nat) : Bool := (s.data.toList.take k).all isDig
theorem to_zero (s : ByteArray) : vTo s 0 = 0 ∧ okTo s 0 = true := ⟨rfl, rfl⟩
theorem vTo_succ (s : ByteArray) (k : Nat) (h : k < s.size) (hd : isDig (s[k]'h) = true) (ho : okTo s k = true) : vTo s (k + 1) = 10 * vTo s k + ((s[k]'h).toNat - 48) ∧ okTo s (k + 1) = true := by
  unfold vTo okTo at *
  rw [take_snoc s k h, valL_snoc, all_snoc, ho, hd]; exact ⟨rfl, rfl⟩
theorem vTo_le (s : ByteArray) (k : Nat) (hk : k ≤ 10) (ho : okTo s k = true) : vTo s k ≤ 9999999999 := by
  have h := valL_lt _ ho
  have hl : (s.data.toList.take k).length ≤ 10 := by have := List.length_take_le k s.data.toList; omega
  have hp : 10 ^ (s.data.toList.take k).length ≤ 10 ^ 10 := Nat.pow_le_pow_right (by omega) hl
  unfold vTo; omega
theorem to_all (s : ByteArray) : vTo s s.size = valL s.data.toList ∧ okTo s s.size = s.data.toList.all isDig := by
  have : s.data.toList.take s.size = s.data.toList := List.take_of_length_le (by simp)
  unfold vTo okTo; rw [this]; exact ⟨rfl, rfl⟩
theorem bad_dig (s : ByteArray) (k : Nat) (h : k < s.size) (hd : isDig (s[k]'h) = false) : puOk s.data.toList = false := by
  have hm : s[k]'h ∈ s.data.toList := by
    have : s[k]'h = s.data.toList[k]'(by simpa using h) := rfl
    rw [this]; exact List.getElem_mem _
  have : s.data.toList.all isDig = false := by
    rw [List.all_eq_false]; exact ⟨_, hm, by rw [hd]; decide⟩
  unfold puOk; rw [this]; simp
theorem pu_long (s : ByteArray) (h : 10 < s.size) : puOk s.data.toList = false := by
  unfold puOk; rw [decide_eq_false (p := s.data.toList.length ≤ 10) (by have : s.data.toList.length = s.size := by simp
                                                                        omega)]; simp
theorem pu_lead (l : List UInt8) (h : noLead l = false) : puOk l = false := by unfold puOk; rw [h]; simp
theorem pu_great (l : List UInt8) (h : 1000000000 < valL l) : puOk l = false := by unfold puOk; rw [decide_eq_false (p := valL l ≤ 1000000000) (by omega)]; simp
theorem pu_yes (l : List UInt8) (h1 : l.length ≤ 10) (h2 : l.all isDig = true) (h3 : noLead l = true) (h4 : valL l ≤ 1000000000) : puOk l = true ∧ puV l = valL l := by
  have : puOk l = true := by unfold puOk; rw [decide_eq_true h1, h2, h3, decide_eq_true h4]; rfl
  exact ⟨this, puV_yes this⟩
theorem ret_ib' {a c : Int} {b d : Bool} (h : a = c) (h' : b = d) : Ending.returned (.tuple #[.int .i64 a, .bool b]) = .returned (.tuple #[.int .i64 c, .bool d]) := by rw [h, h']
theorem lead_s (s : ByteArray) (h : 0 < s.size) : noLead s.data.toList = (decide (s.size = 1) || decide (s[0]'h ≠ 48)) := by
  have e : s.data.toList.getD 0 0 = s[0]'h := by
    rw [List.getD_eq_getElem?_getD, List.getElem?_eq_getElem (by simpa using h)]; rfl
  have hl : s.data.toList.length = s.size := by simp
  unfold noLead
  rw [e, hl, decide_eq_true (p := 1 ≤ s.size) (by omega)]; rfl
theorem dig_no {c : UInt8} (h : c.toNat < 48 ∨ 57 < c.toNat) : isDig c = false := by
  unfold isDig
  rcases h with h | h
  · rw [decide_eq_false (by omega)]; rfl
  · rw [decide_eq_false (p := c.toNat ≤ 57) (by omega)]; simp
theorem dig_yes {c : UInt8} (h1 : 48 ≤ c.toNat) (h2 : c.toNat ≤ 57) : isDig c = true := by
  unfold isDig; rw [decide_eq_true h1, decide_eq_true h2]; rfl
set_option maxHeartbeats 1600000 in
theorem i_ParseUint_in (s : ByteArray) (w : World) (h0 : 0 < s.size) (h10 : s.size ≤ 10) (hn : noLead s.data.toList = true) :
    Calls Tryd.prog 11 #[.string s] w fun e w' => e = .returned (.tuple #[.int .i64 (puV s.data.toList), .bool (puOk s.data.toList)]) ∧ w = w' := by
  have HL := hide (show s.data.toList.length = s.size by simp)
  have HN := hide hn
  have HLS := hide (lead_s s h0)
  have n0 : ((s.size : Int) == 0) = false := beq_eq_false_iff_ne.2 (by omega)
  have n1 : decide (10 < (s.size : Int)) = false := decide_eq_false (by omega)
  have c0 : ((((s[0]'h0).toNat : Int) == 48) = true ∧ decide (1 < (s.size : Int)) = false) ∨ (((s[0]'h0).toNat : Int) == 48) = false := by
    rw [lead_s s h0, Bool.or_eq_true, decide_eq_true_eq, decide_eq_true_eq] at hn
    by_cases e : s[0]'h0 = 48
    · left
      have : s.size = 1 := by rcases hn with h | h; exact h; exact absurd e h
      exact ⟨by rw [e]; rfl, decide_eq_false (by omega)⟩
    · right
      refine beq_eq_false_iff_ne.2 fun h => e ?_
      apply UInt8.toNat_inj.1
      show (s[0]'h0).toNat = 48
      omega
  have hx0 : (s[0]'h0).toNat < 256 := UInt8.toNat_lt _
  clear hn
  rcases c0 with ⟨c0, c1⟩ | c0
  all_goals
    go_enter Tryd.func11, Tryd.ntmps11
    go_wp2_with fail
    go_loop [4, 5] (fun nv iv => ∃ k : Nat, k ≤ s.size ∧ iv = .int .i64 k ∧ nv = .int .i64 ((vTo s k : Nat) : Int) ∧ Hid (okTo s k = true)) (fun _ iv => s.size - (intOf iv).toNat)
    case atStart => exact ⟨0, Nat.zero_le _, rfl, rfl, rfl⟩
    case round =>
      clear c0 n0 n1 hx0
      obtain ⟨k, hk, rfl, rfl, hok⟩ := hrel
      have hle := vTo_le s k (by omega) hok.out
      by_cases hlt : k < s.size
      · have hx : (s[k]'hlt).toNat < 256 := UInt8.toNat_lt _
        by_cases hb1 : (s[k]'hlt).toNat < 48
        · have hf := hide (bad_dig s k hlt (dig_no (.inl hb1)))
          clear hok
          go_wp2
          go_ret2
          exact ⟨ret_ib' (by rw [puV_no hf.out]; rfl) hf.out.symm, rfl⟩
        · by_cases hb2 : 57 < (s[k]'hlt).toNat
          · have hf := hide (bad_dig s k hlt (dig_no (.inr hb2)))
            clear hok
            go_wp2
            go_ret2
            exact ⟨ret_ib' (by rw [puV_no hf.out]; rfl) hf.out.symm, rfl⟩
          · have hs := hide (vTo_succ s k hlt (dig_yes (by omega) (by omega)) hok.out)
            have hb3 : 48 ≤ (s[k]'hlt).toNat := by omega
            have hb4 : (s[k]'hlt).toNat ≤ 57 := by omega
            clear hok hb1 hb2
            generalize vTo s k = v at *
            go_wp2
            go_round
            case rel => exact ⟨k + 1, by omega, by go_num, by rw [hs.out.1]; go_num, hs.out.2⟩
            case measure => simp [intOf]; omega
      · obtain rfl : k = s.size := by omega
        have ht := hide (to_all s)
        have hall := hide (show s.data.toList.all isDig = true by rw [← ht.out.2]; exact hok.out)
        by_cases hg : 1000000000 < vTo s s.size
        · have hf := hide (pu_great s.data.toList (by rw [← ht.out.1]; exact hg))
          clear hok
          generalize vTo s s.size = v at *
          go_wp2
          go_ret2
          exact ⟨ret_ib' (by rw [puV_no hf.out]; rfl) hf.out.symm, rfl⟩
        · have hf := hide (pu_yes s.data.toList (by rw [HL.out]; exact h10) hall.out HN.out (by rw [← ht.out.1]; omega))
          have hv := hide (show (vTo s s.size : Int) = (puV s.data.toList : Int) by rw [hf.out.2, ht.out.1])
          clear hok ht
          generalize vTo s s.size = v at *
          go_wp2
          go_ret2
          exact ⟨ret_ib' hv.out hf.out.1.symm, rfl⟩
set_option maxHeartbeats 800000 in
theorem i_ParseUint (s : ByteArray) (w : World) (hs : s.size ≤ 1099511627776) :
    Calls Tryd.prog 11 #[.string s] w fun e w' => e = .returned (.tuple #[.int .i64 (puV s.data.toList), .bool (puOk s.data.toList)]) ∧ w = w' := by
  by_cases h0 : s.size = 0
  · have hf := hide (pu_lead s.data.toList (by unfold noLead; rw [decide_eq_false (by have : s.data.toList.length = s.size := by simp
                                                                                      omega)]; rfl))
    have n0 : ((s.size : Int) == 0) = true := beq_iff_eq.2 (by omega)
    clear h0
    go_enter Tryd.func11, Tryd.ntmps11
    go_wp2_with fail
    go_ret2
    exact ⟨ret_ib' (by rw [puV_no hf.out]; rfl) hf.out.symm, rfl⟩
  · have hp : 0 < s.size := by omega
    have n0 : ((s.size : Int) == 0) = false := beq_eq_false_iff_ne.2 (by omega)
    by_cases h10 : 10 < s.size
    · have hf := hide (pu_long s h10)
      have n1 : decide (10 < (s.size : Int)) = true := decide_eq_true (by omega)
      clear h0
      go_enter Tryd.func11, Tryd.ntmps11
      go_wp2_with fail
      go_ret2
      exact ⟨ret_ib' (by rw [puV_no hf.out]; rfl) hf.out.symm, rfl⟩
    · cases hn : noLead s.data.toList with
      | true => exact i_ParseUint_in s w hp (by omega) hn
      | false =>
        have hf := hide (pu_lead s.data.toList hn)
        rw [lead_s s hp, Bool.or_eq_false_iff, decide_eq_false_iff_not, decide_eq_false_iff_not] at hn
        have e : s[0]'hp = 48 := Classical.not_not.1 hn.2
        have c0 : (((s[0]'hp).toNat : Int) == 48) = true := by rw [e]; rfl
        have n1 : decide (10 < (s.size : Int)) = false := decide_eq_false (by omega)
        have n2 : decide (1 < (s.size : Int)) = true := decide_eq_true (by omega)
        clear hn e h0 h10
        go_enter Tryd.func11, Tryd.ntmps11
        go_wp2_with fail
        go_ret2
        exact ⟨ret_ib' (by rw [puV_no hf.out]; rfl) hf.out.symm, rfl⟩
end Go.Proofs.YtaadnknpfbbjjaaDoor
