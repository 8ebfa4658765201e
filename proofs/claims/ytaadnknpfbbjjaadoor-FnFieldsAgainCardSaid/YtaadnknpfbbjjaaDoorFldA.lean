/- What SplitFields returns, in the program and in the reference, for strings of at most 2^40 bytes: the fields, in a row of the call's own. -/
import Derived.Test.YtaadnknpfbbjjaaDoorOwn
import Derived.Test.YtaadnknpfbbjjaaDoorStr
import Derived.Test.YtaadnknpfbbjjaaDoorPlFields
namespace Go.Proofs.YtaadnknpfbbjjaaDoor
open Go.RowKit Sat
set_option linter.unusedVariables false

theorem infoS : (Tryd.prog.info? 9).map (fun i => (i.zero, i.size, i.bytes)) = some (some (.string ⟨#[]⟩), 1, 16) := by kernel_rfl
theorem own_mono {w : World} {B B' e size : Nat} {v : Value} {n : Nat} {xs : List Value} (h : w.ownsRow B e size v n xs) (hb : B' ≤ B) : w.ownsRow B' e size v n xs := by
  refine ⟨h.1, ?_⟩
  rcases h.2 with h2 | ⟨g, cap, cur, h1, h2, h3⟩
  · exact .inl h2
  · exact .inr ⟨g, cap, cur, h1, by omega, h3⟩
def fDone (s : ByteArray) (k : Nat) : List (List UInt8) := (fScan (s.data.toList.take k)).1
def fCur (s : ByteArray) (k : Nat) : List UInt8 := (fScan (s.data.toList.take k)).2
def fOk (s : ByteArray) (k : Nat) : Bool := (s.data.toList.take k).all inLine
theorem take_snoc' (s : ByteArray) (k : Nat) (h : k < s.size) : s.data.toList.take (k + 1) = s.data.toList.take k ++ [s[k]'h] := by
  rw [List.take_succ_eq_append_getElem (by simpa using h)]; rfl
theorem f_space (s : ByteArray) (k : Nat) (h : k < s.size) (hc : s[k]'h = 32) : fDone s (k + 1) = (if (fCur s k).length = 0 then fDone s k else fDone s k ++ [fCur s k]) ∧ fCur s (k + 1) = [] := by
  unfold fDone fCur
  rw [take_snoc' s k h, fScan_snoc, hc]
  unfold fStep
  rw [if_pos rfl]
  refine ⟨?_, rfl⟩
  by_cases e : (fScan (s.data.toList.take k)).2 = []
  · rw [if_pos e, if_pos (by rw [e]; rfl)]
  · rw [if_neg e, if_neg (fun h => e (List.eq_nil_of_length_eq_zero h))]
theorem f_plain (s : ByteArray) (k : Nat) (h : k < s.size) (hc : s[k]'h ≠ 32) : fDone s (k + 1) = fDone s k ∧ fCur s (k + 1) = fCur s k ++ [s[k]'h] := by
  unfold fDone fCur
  rw [take_snoc' s k h, fScan_snoc]
  unfold fStep
  rw [if_neg hc]; exact ⟨rfl, rfl⟩
theorem f_ok (s : ByteArray) (k : Nat) (h : k < s.size) (hc : inLine (s[k]'h) = true) (ho : fOk s k = true) : fOk s (k + 1) = true := by
  unfold fOk at *
  rw [take_snoc' s k h, List.all_append, ho]; simp [hc]
theorem f_cur (s : ByteArray) (k : Nat) (hk : k ≤ s.size) : (fCur s k).length ≤ k ∧ s.extract (k - (fCur s k).length) k = str (fCur s k) := by
  have h := fScan_cur (s.data.toList.take k)
  have hl : (s.data.toList.take k).length = k := by rw [List.length_take]; simp; omega
  rw [hl] at h
  refine ⟨h.1, ?_⟩
  have e : (s.extract (k - (fCur s k).length) k).data.toList = fCur s k := by
    rw [ext_data]
    have h2 := h.2
    rw [List.drop_take] at h2
    exact h2
  exact (str_of _).symm.trans (congrArg str e)
theorem f_len (s : ByteArray) (k : Nat) : (fDone s k).length ≤ k := by
  have key : ∀ l : List UInt8, (fScan l).1.length ≤ l.length := by
    intro l
    rw [← List.reverse_reverse l]
    generalize l.reverse = r
    induction r with
    | nil => simp [fScan]
    | cons c r ih =>
      rw [List.reverse_cons, fScan_snoc]
      unfold fStep
      split
      · split <;> simp at * <;> omega
      · simp at *; omega
  have := key (s.data.toList.take k)
  have h2 := List.length_take_le k s.data.toList
  unfold fDone; omega
theorem f_all (s : ByteArray) : fields s.data.toList = (if (fCur s s.size).length = 0 then fDone s s.size else fDone s s.size ++ [fCur s s.size]) ∧ fOk s s.size = s.data.toList.all inLine := by
  have e : s.data.toList.take s.size = s.data.toList := List.take_of_length_le (by simp)
  unfold fDone fCur fOk fields fEnd
  rw [e]
  refine ⟨?_, rfl⟩
  by_cases h : (fScan s.data.toList).2 = []
  · rw [if_pos h, if_pos (by rw [h]; rfl)]
  · rw [if_neg h, if_neg (fun h' => h (List.eq_nil_of_length_eq_zero h'))]
theorem in_no {c : UInt8} (h : c.toNat < 32 ∨ 126 < c.toNat) : inLine c = false := by
  unfold inLine
  rcases h with h | h
  · rw [decide_eq_false (by omega)]; rfl
  · rw [decide_eq_false (p := c.toNat ≤ 126) (by omega)]; simp
theorem in_yes {c : UInt8} (h1 : 32 ≤ c.toNat) (h2 : c.toNat ≤ 126) : inLine c = true := by
  unfold inLine; rw [decide_eq_true h1, decide_eq_true h2]; rfl
theorem line_bad (s : ByteArray) (k : Nat) (h : k < s.size) (hd : inLine (s[k]'h) = false) : lineOk s.data.toList = false := by
  have hm : s[k]'h ∈ s.data.toList := by
    have : s[k]'h = s.data.toList[k]'(by simpa using h) := rfl
    rw [this]; exact List.getElem_mem _
  have : s.data.toList.all inLine = false := by
    rw [List.all_eq_false]; exact ⟨_, hm, by rw [hd]; decide⟩
  unfold lineOk; rw [this]; simp
theorem line_long (s : ByteArray) (h : 600 < s.size) : lineOk s.data.toList = false := by
  have hl : s.data.toList.length = s.size := by simp
  unfold lineOk; rw [decide_eq_false (p := s.data.toList.length ≤ 600) (by omega)]; simp
theorem line_many (l : List UInt8) (h : 24 < (fields l).length) : lineOk l = false := by
  unfold lineOk; rw [decide_eq_false (p := (fields l).length ≤ 24) (by omega)]; simp
theorem line_yes (s : ByteArray) (h1 : s.size ≤ 600) (h2 : s.data.toList.all inLine = true) (h3 : (fields s.data.toList).length ≤ 24) : lineOk s.data.toList = true ∧ fieldsOf s.data.toList = fields s.data.toList := by
  have hl : s.data.toList.length = s.size := by simp
  have : lineOk s.data.toList = true := by unfold lineOk; rw [decide_eq_true (p := s.data.toList.length ≤ 600) (by omega), h2, decide_eq_true h3]; rfl
  unfold fieldsOf; rw [if_pos this]; exact ⟨this, rfl⟩
theorem no_fields {l : List UInt8} (h : lineOk l = false) : fieldsOf l = [] := by unfold fieldsOf; rw [h]; rfl
theorem fieldsOf_len (l : List UInt8) : (fieldsOf l).length ≤ 24 := by
  unfold fieldsOf
  by_cases h : lineOk l = true
  · rw [if_pos h]; unfold lineOk at h; simp only [Bool.and_eq_true, decide_eq_true_eq] at h; exact h.2
  · rw [if_neg h]; simp
/-- the fields of a line are handed back, in a row of the call's own -/
def MadeFields (l : List UInt8) (w : World) (e : Ending) (w' : World) : Prop := ∃ v, e = .returned (.tuple #[v, .bool (lineOk l)]) ∧ w'.ownsRow w.heap.size 9 1 v (fieldsOf l).length (Ts (fieldsOf l)) ∧ Below w.heap.size w w'
theorem made_no {l : List UInt8} {w w' : World} {v : Value} (h : lineOk l = false) (ho : w'.ownsRow w.heap.size 9 1 v 0 []) (hb : Below w.heap.size w w') : MadeFields l w (.returned (.tuple #[v, .bool false])) w' :=
  ⟨v, by rw [h], by rw [no_fields h]; exact ho, hb⟩
theorem made_yes {l : List UInt8} {w w' : World} {v : Value} {xs : List (List UInt8)} (h : lineOk l = true) (hx : fieldsOf l = xs) (ho : w'.ownsRow w.heap.size 9 1 v xs.length (Ts xs)) (hb : Below w.heap.size w w') : MadeFields l w (.returned (.tuple #[v, .bool true])) w' :=
  ⟨v, by rw [h], by rw [hx]; exact ho, hb⟩
/-- where the open run begins; -1 if there is none -/
def Begun (s : ByteArray) (k : Nat) (x : Int) : Prop := ((fCur s k).length = 0 ∧ x = -1) ∨ (1 ≤ (fCur s k).length ∧ x = (k : Int) - (fCur s k).length)
set_option maxHeartbeats 3200000 in
theorem i_SplitFields_in (s : ByteArray) (w : World) (h6 : s.size ≤ 600) :
    Calls Tryd.prog 16 #[.string s] w (MadeFields s.data.toList w) := by
  have d6 : decide (600 < (s.size : Int)) = false := decide_eq_false (by omega)
  go_enter Tryd.func16, Tryd.ntmps16
  go_wp2_with fail
  go_loopw [4, 5, 6] (fun v xv iv wr => ∃ (k : Nat) (x : Int), k ≤ s.size ∧ iv = .int .i64 k ∧ xv = .int .i64 x ∧ Hid (Begun s k x) ∧ Hid (fOk s k = true) ∧ wr.ownsRow w.heap.size 9 1 v (fDone s k).length (Ts (fDone s k)) ∧ Below w.heap.size w wr) (fun _ _ iv _ => s.size - (intOf iv).toNat)
  case atStart => exact ⟨0, -1, Nat.zero_le _, rfl, rfl, .inl ⟨rfl, rfl⟩, rfl, World.ownsRow_nil _ _ _ _, Below.refl _ _⟩
  case round =>
    clear d6
    obtain ⟨k, x, hk, rfl, rfl, hbg, hok, hown, hb⟩ := hrel
    have hsz := hb.size
    have HO := hide hown
    have hfl := f_len s k
    obtain ⟨fc1, fc2⟩ := f_cur s k hk
    have FC2 := hide fc2
    have hbgo := hbg.out
    clear hown fc2
    by_cases hlt : k < s.size
    · have hx : (s[k]'hlt).toNat < 256 := UInt8.toNat_lt _
      by_cases hin : inLine (s[k]'hlt) = true
      · have hok' := hide (f_ok s k hlt hin hok.out)
        have hin2 : 32 ≤ (s[k]'hlt).toNat ∧ (s[k]'hlt).toNat ≤ 126 := by unfold inLine at hin; simpa using hin
        have i1 := hin2.1
        have i2 := hin2.2
        clear hin hin2 hok
        by_cases hc : s[k]'hlt = 32
        · have hfs := hide (f_space s k hlt hc)
          have hc1 : (((s[k]'hlt).toNat : Int) == 32) = true := by rw [hc]; rfl
          have HC := hide hc
          clear hc
          by_cases hcu : (fCur s k).length = 0
          · have hxx : x = -1 := by rcases hbgo with ⟨_, h⟩ | ⟨h, _⟩; exact h; omega
            subst hxx
            have hn := hide (show fDone s (k + 1) = fDone s k by rw [hfs.out.1, if_pos hcu])
            have hbn := hide (show Begun s (k + 1) (-1) from .inl ⟨by rw [hfs.out.2]; rfl, rfl⟩)
            clear hcu hbgo hbg
            go_wp2_with fail
            go_roundw
            case rel => exact ⟨k + 1, -1, by omega, by go_num, rfl, hbn, hok', by rw [hn.out]; exact HO.out, hb⟩
            case measure => simp [intOf]; omega
          · obtain ⟨p, hp⟩ : ∃ p, p = k - (fCur s k).length := ⟨_, rfl⟩
            have hxx : x = (p : Int) := by rcases hbgo with ⟨h, _⟩ | ⟨_, h⟩; exact absurd h hcu; omega
            subst hxx
            have hpk : p ≤ k := by omega
            rw [← hp] at FC2
            have hn := hide (show fDone s (k + 1) = fDone s k ++ [fCur s k] by rw [hfs.out.1, if_neg hcu])
            have hbn := hide (show Begun s (k + 1) (-1) from .inl ⟨by rw [hfs.out.2]; rfl, rfl⟩)
            clear hcu hbgo hbg hp
            go_wp2_with (at_builtin; refine wpList_appV 32 9 (.string ⟨#[]⟩) 1 16 Tryd.underlying32 infoS rfl (by decide) (by decide) rfl _ _ rfl w.heap.size _ (fDone s k).length 1 (Ts (fDone s k)) [.string (str (fCur s k))] rfl HO.out rfl ?c1 rfl ?c3 ?c4 ?c5 ?_)
            case c1 => rw [← FC2.out]
            case c3 => intro u hu; simp at hu; subst hu; rfl
            case c4 => omega
            case c5 => exact hsz
            · intro v' w' hown' hb'
              have HO' := hide (show w'.ownsRow w.heap.size 9 1 v' (fDone s (k + 1)).length (Ts (fDone s (k + 1))) by rw [hn.out, Ts_snoc, List.length_append]; exact hown')
              clear HO hown'
              go_wp2
              go_roundw
              case rel => exact ⟨k + 1, -1, by omega, by go_num, rfl, hbn, hok', HO'.out, hb.trans hb'⟩
              case measure => simp [intOf]; omega
        · have hfs := hide (f_plain s k hlt hc)
          have hc1 : (((s[k]'hlt).toNat : Int) == 32) = false := by
            refine beq_eq_false_iff_ne.2 fun h => hc ?_
            apply UInt8.toNat_inj.1
            show (s[k]'hlt).toNat = 32
            omega
          have hll := hide (show (fCur s (k + 1)).length = (fCur s k).length + 1 by rw [hfs.out.2]; simp)
          have HC := hide hc
          clear hc
          by_cases hcu : (fCur s k).length = 0
          · have hxx : x = -1 := by rcases hbgo with ⟨_, h⟩ | ⟨h, _⟩; exact h; omega
            subst hxx
            have hbn := hide (show Begun s (k + 1) (k : Int) from .inr ⟨by rw [hll.out]; omega, by rw [hll.out]; omega⟩)
            clear hcu hbgo hbg
            go_wp2_with fail
            go_roundw
            case rel => exact ⟨k + 1, k, by omega, by go_num, rfl, hbn, hok', by rw [hfs.out.1]; exact HO.out, hb⟩
            case measure => simp [intOf]; omega
          · obtain ⟨p, hp⟩ : ∃ p, p = k - (fCur s k).length := ⟨_, rfl⟩
            have hxx : x = (p : Int) := by rcases hbgo with ⟨h, _⟩ | ⟨_, h⟩; exact absurd h hcu; omega
            subst hxx
            have hbn := hide (show Begun s (k + 1) (p : Int) from .inr ⟨by rw [hll.out]; omega, by rw [hll.out]; omega⟩)
            clear hcu hbgo hbg hp
            go_wp2_with fail
            go_roundw
            case rel => exact ⟨k + 1, p, by omega, by go_num, rfl, hbn, hok', by rw [hfs.out.1]; exact HO.out, hb⟩
            case measure => simp [intOf]; omega
      · have hf := hide (line_bad s k hlt (by simpa using hin))
        have hbad : (s[k]'hlt).toNat < 32 ∨ 126 < (s[k]'hlt).toNat := by
          rcases Nat.lt_or_ge (s[k]'hlt).toNat 32 with h | h
          · exact .inl h
          · rcases Nat.lt_or_ge 126 (s[k]'hlt).toNat with h' | h'
            · exact .inr h'
            · exact absurd (in_yes h h') hin
        clear hin hok hbgo hbg
        rcases hbad with hbad | hbad
        · go_wp2_with fail
          go_ret2
          exact made_no hf.out (World.ownsRow_nil _ _ _ _) hb
        · have hbad2 : ¬ (s[k]'hlt).toNat < 32 := by omega
          go_wp2_with fail
          go_ret2
          exact made_no hf.out (World.ownsRow_nil _ _ _ _) hb
    · obtain rfl : k = s.size := by omega
      have hall := hide (f_all s)
      have hline := hide (show s.data.toList.all inLine = true by rw [← hall.out.2]; exact hok.out)
      clear hok
      by_cases hcu : (fCur s s.size).length = 0
      · have hxx : x = -1 := by rcases hbgo with ⟨_, h⟩ | ⟨h, _⟩; exact h; omega
        subst hxx
        have hn := hide (show fields s.data.toList = fDone s s.size by rw [hall.out.1, if_pos hcu])
        obtain ⟨A, c, rfl⟩ := own_form HO.out
        clear hcu hbgo hbg
        by_cases h24 : 24 < (fDone s s.size).length
        · have hf := hide (line_many s.data.toList (by rw [hn.out]; exact h24))
          go_wp2_with fail
          go_ret2
          exact made_no hf.out (World.ownsRow_nil _ _ _ _) hb
        · have hf := hide (line_yes s h6 hline.out (by rw [hn.out]; omega))
          go_wp2_with fail
          go_ret2
          exact made_yes hf.out.1 (by rw [hf.out.2, hn.out]) HO.out hb
      · obtain ⟨p, hp⟩ : ∃ p, p = s.size - (fCur s s.size).length := ⟨_, rfl⟩
        have hxx : x = (p : Int) := by rcases hbgo with ⟨h, _⟩ | ⟨_, h⟩; exact absurd h hcu; omega
        subst hxx
        have hpk : p ≤ s.size := by omega
        rw [← hp] at FC2
        have hn := hide (show fields s.data.toList = fDone s s.size ++ [fCur s s.size] by rw [hall.out.1, if_neg hcu])
        clear hcu hbgo hbg hp
        go_wp2_with (at_builtin; refine wpList_appV 32 9 (.string ⟨#[]⟩) 1 16 Tryd.underlying32 infoS rfl (by decide) (by decide) rfl _ _ rfl w.heap.size _ (fDone s s.size).length 1 (Ts (fDone s s.size)) [.string (str (fCur s s.size))] rfl HO.out rfl ?e1 rfl ?e3 ?e4 ?e5 ?_)
        case e1 => rw [← FC2.out]
        case e3 => intro u hu; simp at hu; subst hu; rfl
        case e4 => omega
        case e5 => exact hsz
        · intro v' w' hown' hb'
          have HO' := hide (show w'.ownsRow w.heap.size 9 1 v' (fields s.data.toList).length (Ts (fields s.data.toList)) by rw [hn.out, Ts_snoc, List.length_append]; exact hown')
          clear HO hown' hn hall
          generalize hF : fields s.data.toList = F at *
          have HF := hide hF
          clear hF
          obtain ⟨A, c, rfl⟩ := own_form HO'.out
          by_cases h24 : 24 < F.length
          · have hf := hide (line_many s.data.toList (by rw [HF.out]; exact h24))
            go_wp2_with fail
            go_ret2
            exact made_no hf.out (World.ownsRow_nil _ _ _ _) (hb.trans hb')
          · have hf := hide (line_yes s h6 hline.out (by rw [HF.out]; omega))
            go_wp2_with fail
            go_ret2
            exact made_yes hf.out.1 (by rw [hf.out.2, HF.out]) HO'.out (hb.trans hb')
set_option maxHeartbeats 400000 in
theorem i_SplitFields (s : ByteArray) (w : World) (hs : s.size ≤ 1099511627776) :
    Calls Tryd.prog 16 #[.string s] w (MadeFields s.data.toList w) := by
  by_cases h : 600 < s.size
  · have hf := hide (line_long s h)
    go_enter Tryd.func16, Tryd.ntmps16
    go_wp2_with fail
    go_ret2
    exact made_no hf.out (World.ownsRow_nil _ _ _ _) (Below.refl _ _)
  · exact i_SplitFields_in s w (by omega)
/-- the reference's scan: the byte behind the line counts as a space -/
def Sp (s : ByteArray) (k b : Nat) (acc : List (List UInt8)) : Prop := (k ≤ s.size ∧ fOk s k = true ∧ acc = fDone s k ∧ b + (fCur s k).length = k) ∨ (k = s.size + 1 ∧ s.data.toList.all inLine = true ∧ acc = fields s.data.toList)
set_option maxHeartbeats 3200000 in
theorem s_SplitFields_in (s : ByteArray) (w : World) (h6 : s.size ≤ 600) :
    Calls Tryd.prog 17 #[.string s] w (MadeFields s.data.toList w) := by
  have d6 : decide (600 < (s.size : Int)) = false := decide_eq_false (by omega)
  go_enter Tryd.func17, Tryd.ntmps17
  go_wp2_with fail
  go_loopw [4, 5, 6] (fun v xv iv wr => ∃ (k b : Nat) (acc : List (List UInt8)), k ≤ s.size + 1 ∧ iv = .int .i64 k ∧ xv = .int .i64 b ∧ b ≤ k ∧ acc.length ≤ k ∧ Hid (Sp s k b acc) ∧ wr.ownsRow w.heap.size 9 1 v acc.length (Ts acc) ∧ Below w.heap.size w wr) (fun _ _ iv _ => s.size + 1 - (intOf iv).toNat)
  case atStart => exact ⟨0, 0, [], Nat.zero_le _, rfl, rfl, Nat.le_refl _, Nat.le_refl _, .inl ⟨Nat.zero_le _, rfl, rfl, rfl⟩, own_lit w _ _, (Below.refl _ _).alloc (Nat.le_refl _) _⟩
  case round =>
    clear d6
    obtain ⟨k, b, acc, hk, rfl, rfl, hbk, hac, hsp, hown, hb⟩ := hrel
    have hsz := hb.size
    have HO := hide hown
    clear hown
    by_cases hle : k ≤ s.size
    · obtain ⟨ok, ac, bl⟩ : fOk s k = true ∧ acc = fDone s k ∧ b + (fCur s k).length = k := by
        rcases hsp.out with ⟨_, h⟩ | ⟨h, _⟩
        · exact h
        · omega
      obtain ⟨fc1, fc2⟩ := f_cur s k hle
      rw [show k - (fCur s k).length = b by omega] at fc2
      have FC2 := hide fc2
      have AC := hide ac
      have OK := hide ok
      have BL := hide bl
      clear hsp fc2 ac ok bl fc1
      by_cases hlt : k < s.size
      · have hx : (s[k]'hlt).toNat < 256 := UInt8.toNat_lt _
        by_cases hin : inLine (s[k]'hlt) = true
        · have hok' := hide (f_ok s k hlt hin OK.out)
          have hin2 : 32 ≤ (s[k]'hlt).toNat ∧ (s[k]'hlt).toNat ≤ 126 := by unfold inLine at hin; simpa using hin
          have i1 := hin2.1
          have i2 := hin2.2
          clear hin hin2 OK
          by_cases hc : s[k]'hlt = 32
          · have hfs := hide (f_space s k hlt hc)
            have hc1 : (((s[k]'hlt).toNat : Int) == 32) = true := by rw [hc]; rfl
            have hc2 : (((s[k]'hlt).toNat : Int) != 32) = false := by rw [hc]; rfl
            clear hc
            by_cases hcu : b < k
            · have hne : ¬ (fCur s k).length = 0 := by have := BL.out; omega
              have hn := hide (show Sp s (k + 1) (k + 1) (acc ++ [fCur s k]) from .inl ⟨by omega, hok'.out, by rw [hfs.out.1, if_neg hne, AC.out], by rw [hfs.out.2]; rfl⟩)
              clear hne
              go_wp2_with (at_builtin; refine wpList_appV 32 9 (.string ⟨#[]⟩) 1 16 Tryd.underlying32 infoS rfl (by decide) (by decide) rfl _ _ rfl w.heap.size _ acc.length 1 (Ts acc) [.string (str (fCur s k))] rfl HO.out rfl ?c1 rfl ?c3 ?c4 ?c5 ?_)
              case c1 => rw [← FC2.out]
              case c3 => intro u hu; simp at hu; subst hu; rfl
              case c4 => omega
              case c5 => exact hsz
              · intro v' w' hown' hb'
                have HO' := hide (show w'.ownsRow w.heap.size 9 1 v' (acc ++ [fCur s k]).length (Ts (acc ++ [fCur s k])) by rw [Ts_snoc, List.length_append]; exact hown')
                clear HO hown'
                go_wp2
                go_roundw
                case rel => exact ⟨k + 1, k + 1, acc ++ [fCur s k], by omega, by go_num, by go_num, Nat.le_refl _, by simp; omega, hn, HO'.out, hb.trans hb'⟩
                case measure => simp [intOf]; omega
            · have he : (fCur s k).length = 0 := by have := BL.out; omega
              have hn := hide (show Sp s (k + 1) (k + 1) acc from .inl ⟨by omega, hok'.out, by rw [hfs.out.1, if_pos he, AC.out], by rw [hfs.out.2]; rfl⟩)
              clear he
              go_wp2_with fail
              go_roundw
              case rel => exact ⟨k + 1, k + 1, acc, by omega, by go_num, by go_num, Nat.le_refl _, by omega, hn, HO.out, hb⟩
              case measure => simp [intOf]; omega
          · have hfs := hide (f_plain s k hlt hc)
            have hc0 : ¬ ((s[k]'hlt).toNat : Int) = 32 := fun h => hc (UInt8.toNat_inj.1 (by show (s[k]'hlt).toNat = 32; omega))
            have hc1 : (((s[k]'hlt).toNat : Int) == 32) = false := beq_eq_false_iff_ne.2 hc0
            have hc2 : (((s[k]'hlt).toNat : Int) != 32) = true := bne_iff_ne.2 hc0
            have hn := hide (show Sp s (k + 1) b acc from .inl ⟨by omega, hok'.out, by rw [hfs.out.1, AC.out], by rw [hfs.out.2, List.length_append]; have := BL.out; simp; omega⟩)
            clear hc hc0
            go_wp2_with fail
            go_roundw
            case rel => exact ⟨k + 1, b, acc, by omega, by go_num, rfl, by omega, by omega, hn, HO.out, hb⟩
            case measure => simp [intOf]; omega
        · have hf := hide (line_bad s k hlt (by simpa using hin))
          have hbad : (s[k]'hlt).toNat < 32 ∨ 126 < (s[k]'hlt).toNat := by
            rcases Nat.lt_or_ge (s[k]'hlt).toNat 32 with h | h
            · exact .inl h
            · rcases Nat.lt_or_ge 126 (s[k]'hlt).toNat with h' | h'
              · exact .inr h'
              · exact absurd (in_yes h h') hin
          clear hin OK
          rcases hbad with hbad | hbad
          · go_wp2_with fail
            go_ret2
            exact made_no hf.out (own_mono (own_lit wr _ _) hsz) (hb.alloc hsz _)
          · have hbad2 : ¬ (s[k]'hlt).toNat < 32 := by omega
            go_wp2_with fail
            go_ret2
            exact made_no hf.out (own_mono (own_lit wr _ _) hsz) (hb.alloc hsz _)
      · obtain rfl : k = s.size := by omega
        have hall := hide (f_all s)
        have hline := hide (show s.data.toList.all inLine = true by rw [← hall.out.2]; exact OK.out)
        clear OK
        by_cases hcu : b < s.size
        · have hne : ¬ (fCur s s.size).length = 0 := by have := BL.out; omega
          have hn := hide (show Sp s (s.size + 1) (s.size + 1) (acc ++ [fCur s s.size]) from .inr ⟨rfl, hline.out, by rw [hall.out.1, if_neg hne, AC.out]⟩)
          clear hne
          go_wp2_with (at_builtin; refine wpList_appV 32 9 (.string ⟨#[]⟩) 1 16 Tryd.underlying32 infoS rfl (by decide) (by decide) rfl _ _ rfl w.heap.size _ acc.length 1 (Ts acc) [.string (str (fCur s s.size))] rfl HO.out rfl ?e1 rfl ?e3 ?e4 ?e5 ?_)
          case e1 => rw [← FC2.out]
          case e3 => intro u hu; simp at hu; subst hu; rfl
          case e4 => omega
          case e5 => exact hsz
          · intro v' w' hown' hb'
            have HO' := hide (show w'.ownsRow w.heap.size 9 1 v' (acc ++ [fCur s s.size]).length (Ts (acc ++ [fCur s s.size])) by rw [Ts_snoc, List.length_append]; exact hown')
            clear HO hown'
            go_wp2
            go_roundw
            case rel => exact ⟨s.size + 1, s.size + 1, acc ++ [fCur s s.size], by omega, by go_num, by go_num, Nat.le_refl _, by simp; omega, hn, HO'.out, hb.trans hb'⟩
            case measure => simp [intOf]
        · have he : (fCur s s.size).length = 0 := by have := BL.out; omega
          have hn := hide (show Sp s (s.size + 1) (s.size + 1) acc from .inr ⟨rfl, hline.out, by rw [hall.out.1, if_pos he, AC.out]⟩)
          clear he
          go_wp2_with fail
          go_roundw
          case rel => exact ⟨s.size + 1, s.size + 1, acc, by omega, by go_num, by go_num, Nat.le_refl _, by omega, hn, HO.out, hb⟩
          case measure => simp [intOf]
    · obtain ⟨hline, hacc⟩ : s.data.toList.all inLine = true ∧ acc = fields s.data.toList := by
        rcases hsp.out with ⟨h, _⟩ | ⟨_, h⟩
        · omega
        · exact h
      obtain rfl : k = s.size + 1 := by omega
      have HLN := hide hline
      have HAC := hide hacc
      obtain ⟨A, c, rfl⟩ := own_form HO.out
      clear hsp hline hacc
      by_cases h24 : 24 < acc.length
      · have hf := hide (line_many s.data.toList (by rw [← HAC.out]; exact h24))
        go_wp2_with fail
        go_ret2
        exact made_no hf.out (own_mono (own_lit wr _ _) hsz) (hb.alloc hsz _)
      · have hf := hide (line_yes s h6 HLN.out (by rw [← HAC.out]; omega))
        go_wp2_with fail
        go_ret2
        exact made_yes hf.out.1 (by rw [hf.out.2, HAC.out]) HO.out hb
set_option maxHeartbeats 400000 in
theorem s_SplitFields (s : ByteArray) (w : World) (hs : s.size ≤ 1099511627776) :
    Calls Tryd.prog 17 #[.string s] w (MadeFields s.data.toList w) := by
  by_cases h : 600 < s.size
  · have hf := hide (line_long s h)
    go_enter Tryd.func17, Tryd.ntmps17
    go_wp2_with fail
    go_ret2
    exact made_no hf.out (own_lit w _ _) ((Below.refl _ _).alloc (Nat.le_refl _) _)
  · exact s_SplitFields_in s w (by omega)
end Go.Proofs.YtaadnknpfbbjjaaDoor
