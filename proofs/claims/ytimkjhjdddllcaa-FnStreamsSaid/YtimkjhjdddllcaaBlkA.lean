/- What BlocksOf returns, in the program and in the reference, for all ints and strings of at most 2^40 bytes: the texts that could be read, in a row of the call's own, and how many could not. -/
import Derived.Test.YtimkjhjdddllcaaFindA
import Derived.Test.YtimkjhjdddllcaaLinkF
import Derived.Test.YtimkjhjdddllcaaOwnW
import Derived.Deep.QuietTactic
import Derived.BigQuiet
import Derived.Deep.RegionHeld3
import Derived.Deep.DrawnRows
namespace Go.Proofs.Ytimkjhjdddllcaa
open Go.RowKit Sat
set_option linter.unusedVariables false
attribute [local go_sem ↓] Go.wp_at_zero Go.wp_at_succ

theorem infoS : (Try.prog.info? 9).map (fun i => (i.zero, i.size, i.bytes)) = some (some (.string ⟨#[]⟩), 1, 16) := by kernel_rfl
def bkT (s : ByteArray) (size : Int) : List (List UInt8) := texts s.data.toList size.toNat (findL s size)
def bkN (s : ByteArray) (size : Int) : Nat := bads s.data.toList size.toNat (findL s size)
theorem bkT_len (s : ByteArray) (size : Int) : (bkT s size).length ≤ 20000 := by
  have := (texts_len s.data.toList size.toNat (findL s size)).1
  have := findL_len s size
  unfold bkT; omega
def MadeBlocks (s : ByteArray) (size : Int) (w : World) (e : Ending) (w' : World) : Prop := ∃ v, e = .returned (.tuple #[v, .int .i64 (bkN s size : Int)]) ∧ w'.ownsRow w.heap.size 9 1 v (bkT s size).length (Ts (bkT s size)) ∧ Below w.heap.size w w'
theorem made_blocks {s : ByteArray} {size : Int} {w w' : World} {v : Value} {T : List (List UInt8)} {N : Nat} (hT : bkT s size = T) (hN : bkN s size = N) (ho : w'.ownsRow w.heap.size 9 1 v T.length (Ts T)) (hb : Below w.heap.size w w') : MadeBlocks s size w (.returned (.tuple #[v, .int .i64 (N : Int)])) w' :=
  ⟨v, by rw [hN], by rw [hT]; exact ho, hb⟩
/-- each place that is found has its bytes behind it -/
theorem place_in (s : ByteArray) (size : Int) (j : Nat) (h : j < (findL s size).length) : ∃ sz : Nat, size = (sz : Int) ∧ 1 ≤ sz ∧ sz ≤ 200 ∧ s.size ≤ 20000 ∧ (findL s size).getD j 0 + 2 * sz ≤ s.size := by
  unfold findL at *
  by_cases hi : findIn s.size size = true
  · rw [if_pos hi] at *
    have h' := of_decide_eq_true hi
    refine ⟨size.toNat, by omega, by omega, by omega, by omega, ?_⟩
    have hm : (fnd s.data.toList size.toNat 0).getD j 0 ∈ fnd s.data.toList size.toNat 0 := by
      rw [List.getD_eq_getElem?_getD, List.getElem?_eq_getElem h]; exact List.getElem_mem _
    have := (fnd_in _ 0 (Nat.le_refl _) _ hm).2
    have hl : s.data.toList.length = s.size := by simp
    omega
  · rw [if_neg hi] at h; simp at h
theorem piece_is (s : ByteArray) (sz a : Nat) (h1 : 1 ≤ sz) (h : a + 2 * sz ≤ s.size) : (s.extract a (a + 2 * sz)).size = 2 * sz ∧ readOk (s.extract a (a + 2 * sz)) = decodeOk (rdU (rdPiece s.data.toList sz a)) ∧ readT (s.extract a (a + 2 * sz)) = str (decodeOut (rdU (rdPiece s.data.toList sz a))) := by
  have e : (s.extract a (a + 2 * sz)).data.toList = rdPiece s.data.toList sz a := by rw [ext_data]; unfold rdPiece; rw [show a + 2 * sz - a = 2 * sz by omega]
  have hz : (s.extract a (a + 2 * sz)).size = 2 * sz := by rw [ByteArray.size_extract]; omega
  refine ⟨hz, ?_, ?_⟩
  · unfold readOk readU; rw [hz, decide_eq_true (by omega), e]; rfl
  · unfold readT readU; rw [hz, if_pos (by omega), e]
theorem take_at (l : List Nat) (j : Nat) (h : j < l.length) : l.take (j + 1) = l.take j ++ [l.getD j 0] := by
  rw [List.take_succ_eq_append_getElem h, List.getD_eq_getElem?_getD, List.getElem?_eq_getElem h]; rfl
theorem i_Read_is (s t : ByteArray) (ok : Bool) (w : World) (hs : s.size ≤ 1000) (h : readOk s = ok ∧ readT s = t) :
    Calls Try.prog 14 #[.string s] w fun e w' => e = .returned (.tuple #[.string t, .int .i64 (readN s), .bool ok]) ∧ Below w.heap.size w w' := by
  have := i_ReadBlock s w (by omega)
  rw [h.1, h.2] at this
  exact this
set_option maxHeartbeats 1600000 in
theorem i_BlocksOf (s : ByteArray) (size : Int) (w : World) (hs : s.size ≤ 1099511627775) :
    Calls Try.prog 25 #[.string s, .int .i64 size] w (MadeBlocks s size w) := by
  go_enter Try.func25, Try.ntmps25
  go_wp2_with fail
  refine (i_FindBlocks _ _ _ (by omega)).mono ?_
  rintro e w1 ⟨v0, rfl, ho0, hb0⟩
  have z0 := hb0.size
  obtain ⟨A, c, rfl⟩ := own_form ho0
  have M0 := hide (own_ltM ho0)
  have O0 := hide ho0
  have B0 := hide hb0
  clear ho0 hb0
  have hlen := findL_len s size
  have HP := hide (place_in s size)
  have HT := hide (show bkT s size = texts s.data.toList size.toNat (findL s size) from rfl)
  have HN := hide (show bkN s size = bads s.data.toList size.toNat (findL s size) from rfl)
  generalize findL s size = ps at *
  go_wp2_with fail
  go_loopw [6, 7, 17] (fun v bv iv wr => ∃ j : Nat, j ≤ ps.length ∧ iv = .int .i64 j ∧ bv = .int .i64 ((bads s.data.toList size.toNat (ps.take j) : Nat) : Int) ∧ wr.ownsRow w1.heap.size 9 1 v (texts s.data.toList size.toNat (ps.take j)).length (Ts (texts s.data.toList size.toNat (ps.take j))) ∧ Hid (wr.ownsRow w.heap.size 3 1 (.slice A ps.length c) ps.length (Ns ps)) ∧ Hid (w1.heap.size ≤ wr.heap.size) ∧ Below w.heap.size w wr) (fun _ _ iv _ => ps.length - (intOf iv).toNat)
  case atStart => exact ⟨0, Nat.zero_le _, rfl, rfl, World.ownsRow_nil _ _ _ _, O0.out, Nat.le_refl _, B0.out⟩
  case round =>
    obtain ⟨j, hj, rfl, rfl, hown, HR, HK, hb⟩ := hrel
    have hsz := hb.size
    have HO := hide hown
    clear hown O0 B0
    have hbl := (texts_len s.data.toList size.toNat (ps.take j)).2
    have htl := (texts_len s.data.toList size.toNat (ps.take j)).1
    have htk := List.length_take_le j ps
    by_cases hlt : j < ps.length
    · obtain ⟨sz, rfl, g1, g2, g3, g4⟩ := HP.out j hlt
      obtain ⟨g, hA, hc, -, -, hgl⟩ := own_cells HR.out (by omega)
      subst hA
      have k1 := hc j (by omega)
      rw [Ns_at ps j hlt] at k1
      have TA := hide (take_at ps j hlt)
      obtain ⟨q1, q2, q3⟩ := piece_is s sz _ g1 g4
      have TS := hide (show (sz : Int).toNat = sz from rfl)
      rw [TS.out] at HO hbl htl
      clear hc
      obtain ⟨a, ha⟩ : ∃ a, ps.getD j 0 = a := ⟨_, rfl⟩
      rw [ha] at k1 g4 q1 q2 q3 TA
      have HA := hide ha
      clear ha
      have qz : (s.extract a (a + 2 * sz)).size ≤ 1000 := by omega
      have hT := hide (show texts s.data.toList (sz : Int).toNat (ps.take (j + 1)) = texts s.data.toList sz (ps.take j ++ [a]) ∧ bads s.data.toList (sz : Int).toNat (ps.take (j + 1)) = bads s.data.toList sz (ps.take j ++ [a]) by rw [TA.out]; exact ⟨rfl, rfl⟩)
      cases hok : decodeOk (rdU (rdPiece s.data.toList sz a)) with
      | true =>
        have hg := hide (texts_good (l := s.data.toList) (sz := sz) (a := a) (ps.take j) hok)
        have HQ := hide (And.intro (q2.trans hok) q3)
        clear hok q1 q2 q3 HP
        generalize hD : decodeOut (rdU (rdPiece s.data.toList sz a)) = D at *
        clear hD
        go_wp2_with fail
        refine (i_Read_is _ _ _ _ qz HQ.out).mono ?_
        rintro e w2 ⟨rfl, hb2⟩
        have HO2 := hide (own_below HO.out hb2)
        have HR2 := hide (own_below HR.out hb2)
        have HK2 := hide (Nat.le_trans HK.out hb2.size)
        have HB2 := hide (below_trans hb hb2)
        have z2 := hb2.size
        clear HO HR HK hb hb2
        go_wp2_with (at_builtin; refine wpList_appV 44 9 (.string ⟨#[]⟩) 1 16 Try.underlying44 infoS rfl (by decide) (by decide) rfl _ _ rfl w1.heap.size _ (texts s.data.toList sz (ps.take j)).length 1 (Ts (texts s.data.toList sz (ps.take j))) [.string (str D)] rfl HO2.out rfl ?c1 rfl ?c3 ?c4 ?c5 ?_)
        case c1 => rfl
        case c3 => intro u hu; simp at hu; subst hu; rfl
        case c4 => omega
        case c5 => exact HK2.out
        · intro v' w' hown' hb'
          have HO' := hide (show w'.ownsRow w1.heap.size 9 1 v' (texts s.data.toList (sz : Int).toNat (ps.take (j + 1))).length (Ts (texts s.data.toList (sz : Int).toNat (ps.take (j + 1)))) by rw [hT.out.1, hg.out.1, Ts_snoc, List.length_append]; exact hown')
          clear HO2 hown'
          have HR' := hide (own_belowM HR2.out M0.out hb')
          have HK' := hide (Nat.le_trans HK2.out hb'.size)
          have HB' := hide (HB2.out.trans (hb'.mono z0))
          clear HR2 HK2 HB2 hb'
          go_wp2
          go_roundw
          case rel => exact ⟨j + 1, by omega, by go_num, by rw [hT.out.2, hg.out.2], HO'.out, HR'.out, HK'.out, HB'.out⟩
          case measure => simp [intOf]; omega
      | false =>
        have hg := hide (texts_bad (l := s.data.toList) (sz := sz) (a := a) (ps.take j) hok)
        have HQ := hide (And.intro (q2.trans hok) q3)
        clear hok q1 q2 q3 HP
        generalize hD : decodeOut (rdU (rdPiece s.data.toList sz a)) = D at *
        clear hD
        rw [TS.out] at hT ⊢
        generalize hBN : bads s.data.toList sz (ps.take j) = bn at *
        have HBN := hide hBN
        clear hBN
        go_wp2_with fail
        refine (i_Read_is _ _ _ _ qz HQ.out).mono ?_
        rintro e w2 ⟨rfl, hb2⟩
        have HO2 := hide (own_below HO.out hb2)
        have HR2 := hide (own_below HR.out hb2)
        have HK2 := hide (Nat.le_trans HK.out hb2.size)
        have HB2 := hide (below_trans hb hb2)
        clear HO HR HK hb hb2
        go_wp2_with fail
        go_roundw
        case rel => exact ⟨j + 1, by omega, by go_num, by rw [hT.out.2, hg.out.2]; go_num, by rw [hT.out.1, hg.out.1]; exact HO2.out, HR2.out, HK2.out, HB2.out⟩
        case measure => simp [intOf]; omega
    · obtain rfl : j = ps.length := by omega
      rw [List.take_length] at HO ⊢
      have HF := hide (And.intro HT.out HN.out)
      clear HR HK HP HT HN hbl htl htk
      go_wp2_with fail
      go_ret2
      exact made_blocks HF.out.1 HF.out.2 (own_mono HO.out z0) hb
theorem s_Read_is (s t : ByteArray) (ok : Bool) (w : World) (hs : s.size ≤ 1000) (h : readOk s = ok ∧ readT s = t) :
    Calls Try.prog 45 #[.string s] w fun e w' => e = .returned (.tuple #[.string t, .int .i64 (readN s), .bool ok]) ∧ Below w.heap.size w w' := by
  have := s_ReadBlock s w (by omega)
  rw [h.1, h.2] at this
  exact this
set_option maxHeartbeats 1600000 in
theorem s_BlocksOf (s : ByteArray) (size : Int) (w : World) (hs : s.size ≤ 1099511627775) :
    Calls Try.prog 24 #[.string s, .int .i64 size] w (MadeBlocks s size w) := by
  go_enter Try.func24, Try.ntmps24
  go_wp2_with fail
  refine (s_FindBlocks _ _ _ (by omega)).mono ?_
  rintro e w1 ⟨v0, rfl, ho0, hb0⟩
  have z0 := hb0.size
  obtain ⟨A, c, rfl⟩ := own_form ho0
  have L0 := hide (own_below (own_lit w 9 1) hb0)
  have AP0 := hide (apart_lt (v := .slice (some ⟨w.heap.size, 0, none⟩) 0 0) ho0 (by intro k hk; simp [Value.ownBlock] at hk; simp; omega))
  have O0 := hide (own_mono ho0 (show w.heap.size ≤ _ by simp))
  have B0 := hide (show Below w.heap.size w w1 from ((Below.refl w.heap.size w).alloc (Nat.le_refl _) _).trans (hb0.mono (by simp)))
  clear ho0 hb0
  have hlen := findL_len s size
  have HP := hide (place_in s size)
  have HT := hide (show bkT s size = texts s.data.toList size.toNat (findL s size) from rfl)
  have HN := hide (show bkN s size = bads s.data.toList size.toNat (findL s size) from rfl)
  generalize findL s size = ps at *
  go_wp2_with fail
  go_loopw [6, 7, 9] (fun v bv iv wr => ∃ j : Nat, j ≤ ps.length ∧ iv = .int .i64 j ∧ bv = .int .i64 ((bads s.data.toList size.toNat (ps.take j) : Nat) : Int) ∧ wr.ownsRow w.heap.size 9 1 v (texts s.data.toList size.toNat (ps.take j)).length (Ts (texts s.data.toList size.toNat (ps.take j))) ∧ Hid (wr.ownsRow w.heap.size 3 1 (.slice A ps.length c) ps.length (Ns ps)) ∧ Hid (Apart (.slice A ps.length c) v) ∧ Below w.heap.size w wr) (fun _ _ iv _ => ps.length - (intOf iv).toNat)
  case atStart => exact ⟨0, Nat.zero_le _, rfl, rfl, L0.out, O0.out, AP0.out, B0.out⟩
  case round =>
    obtain ⟨j, hj, rfl, rfl, hown, HR, HK, hb⟩ := hrel
    have hsz := hb.size
    have HO := hide hown
    clear hown O0 B0 L0 AP0
    have hbl := (texts_len s.data.toList size.toNat (ps.take j)).2
    have htl := (texts_len s.data.toList size.toNat (ps.take j)).1
    have htk := List.length_take_le j ps
    by_cases hlt : j < ps.length
    · obtain ⟨sz, rfl, g1, g2, g3, g4⟩ := HP.out j hlt
      obtain ⟨g, hA, hc, -, -, hgl⟩ := own_cells HR.out (by omega)
      subst hA
      have k1 := hc j (by omega)
      rw [Ns_at ps j hlt] at k1
      have TA := hide (take_at ps j hlt)
      obtain ⟨q1, q2, q3⟩ := piece_is s sz _ g1 g4
      have TS := hide (show (sz : Int).toNat = sz from rfl)
      rw [TS.out] at HO hbl htl
      clear hc
      obtain ⟨a, ha⟩ : ∃ a, ps.getD j 0 = a := ⟨_, rfl⟩
      rw [ha] at k1 g4 q1 q2 q3 TA
      have HA := hide ha
      clear ha
      have qz : (s.extract a (a + 2 * sz)).size ≤ 1000 := by omega
      have hT := hide (show texts s.data.toList (sz : Int).toNat (ps.take (j + 1)) = texts s.data.toList sz (ps.take j ++ [a]) ∧ bads s.data.toList (sz : Int).toNat (ps.take (j + 1)) = bads s.data.toList sz (ps.take j ++ [a]) by rw [TA.out]; exact ⟨rfl, rfl⟩)
      cases hok : decodeOk (rdU (rdPiece s.data.toList sz a)) with
      | true =>
        have hg := hide (texts_good (l := s.data.toList) (sz := sz) (a := a) (ps.take j) hok)
        have HQ := hide (And.intro (q2.trans hok) q3)
        clear hok q1 q2 q3 HP
        generalize hD : decodeOut (rdU (rdPiece s.data.toList sz a)) = D at *
        clear hD
        have j0 : (0 : Int) ≤ (j : Int) := by omega
        have j1 : (j : Int) < (ps.length : Int) := by omega
        have j2 : (0 : Int) ≤ (a : Int) := by omega
        have j3 : (a : Int) ≤ (a : Int) + 2 * (sz : Int) := by omega
        have j4 : (a : Int) + 2 * (sz : Int) ≤ (s.size : Int) := by omega
        have j5 : ((a : Int) + 2 * (sz : Int)).toNat = a + 2 * sz := by omega
        have j6 : IntKind.i64.wrap (2 * (sz : Int)) = 2 * (sz : Int) := by rw [IntKind.wrap_i64]; omega
        have j7 : IntKind.i64.wrap ((a : Int) + 2 * (sz : Int)) = (a : Int) + 2 * (sz : Int) := by rw [IntKind.wrap_i64]; omega
        go_wp2_with fail
        go_region_held3 (fun w' => w'.cell? ⟨g, j, none⟩ = some (.int .i64 (a : Int))) (first | go_keep | exact (hb2.cell (p := ⟨g, j, none⟩) hgl).trans k1) (first | (go_at_call 45; refine (s_Read_is _ _ _ _ qz HQ.out).mono ?_; rintro e w2 ⟨rfl, hb2⟩))
        have hb2 := below_undrew hb2
        clear j0 j1 j2 j3 j4 j5 j6 j7
        have HO2 := hide (own_below HO.out hb2)
        have HR2 := hide (own_below HR.out hb2)
        have HK2 := hide (HK.out)
        have HB2 := hide (below_trans hb hb2)
        have z2 := hb2.size
        clear HO HR HK hb hb2
        go_wp2_with (at_builtin; refine wpList_appW 44 9 (.string ⟨#[]⟩) 1 16 Try.underlying44 infoS rfl (by decide) (by decide) rfl _ _ rfl w.heap.size _ (texts s.data.toList sz (ps.take j)).length 1 (Ts (texts s.data.toList sz (ps.take j))) [.string (str D)] rfl HO2.out rfl ?c1 rfl ?c3 ?c4 ?c5 ?_)
        case c1 => rfl
        case c3 => intro u hu; simp at hu; subst hu; rfl
        case c4 => omega
        case c5 => omega
        · intro v' w' hown' hb' hs' hl'
          have HO' := hide (show w'.ownsRow w.heap.size 9 1 v' (texts s.data.toList (sz : Int).toNat (ps.take (j + 1))).length (Ts (texts s.data.toList (sz : Int).toNat (ps.take (j + 1)))) by rw [hT.out.1, hg.out.1, Ts_snoc, List.length_append]; exact hown')
          clear HO2 hown'
          have HR' := hide (own_apart HR2.out hs' HK2.out)
          have HK' := hide (apart_lies HR2.out HK2.out hl')
          have HB' := hide (HB2.out.trans (hb'.mono (Nat.le_refl _)))
          clear HR2 HK2 HB2 hb' hs' hl'
          go_wp2
          go_roundw
          case rel => exact ⟨j + 1, by omega, by go_num, by rw [hT.out.2, hg.out.2], HO'.out, HR'.out, HK'.out, HB'.out⟩
          case measure => simp [intOf]; omega
      | false =>
        have hg := hide (texts_bad (l := s.data.toList) (sz := sz) (a := a) (ps.take j) hok)
        have HQ := hide (And.intro (q2.trans hok) q3)
        clear hok q1 q2 q3 HP
        generalize hD : decodeOut (rdU (rdPiece s.data.toList sz a)) = D at *
        clear hD
        rw [TS.out] at hT ⊢
        generalize hBN : bads s.data.toList sz (ps.take j) = bn at *
        have HBN := hide hBN
        clear hBN
        have j0 : (0 : Int) ≤ (j : Int) := by omega
        have j1 : (j : Int) < (ps.length : Int) := by omega
        have j2 : (0 : Int) ≤ (a : Int) := by omega
        have j3 : (a : Int) ≤ (a : Int) + 2 * (sz : Int) := by omega
        have j4 : (a : Int) + 2 * (sz : Int) ≤ (s.size : Int) := by omega
        have j5 : ((a : Int) + 2 * (sz : Int)).toNat = a + 2 * sz := by omega
        have j6 : IntKind.i64.wrap (2 * (sz : Int)) = 2 * (sz : Int) := by rw [IntKind.wrap_i64]; omega
        have j7 : IntKind.i64.wrap ((a : Int) + 2 * (sz : Int)) = (a : Int) + 2 * (sz : Int) := by rw [IntKind.wrap_i64]; omega
        go_wp2_with fail
        go_region_held3 (fun w' => w'.cell? ⟨g, j, none⟩ = some (.int .i64 (a : Int))) (first | go_keep | exact (hb2.cell (p := ⟨g, j, none⟩) hgl).trans k1) (first | (go_at_call 45; refine (s_Read_is _ _ _ _ qz HQ.out).mono ?_; rintro e w2 ⟨rfl, hb2⟩))
        have hb2 := below_undrew hb2
        clear j0 j1 j2 j3 j4 j5 j6 j7
        have HO2 := hide (own_below HO.out hb2)
        have HR2 := hide (own_below HR.out hb2)
        have HK2 := hide (HK.out)
        have HB2 := hide (below_trans hb hb2)
        clear HO HR HK hb hb2
        go_wp2_with fail
        go_roundw
        case rel => exact ⟨j + 1, by omega, by go_num, by rw [hT.out.2, hg.out.2]; go_num, by rw [hT.out.1, hg.out.1]; exact HO2.out, HR2.out, HK2.out, HB2.out⟩
        case measure => simp [intOf]; omega
    · obtain rfl : j = ps.length := by omega
      rw [List.take_length] at HO ⊢
      have HF := hide (And.intro HT.out HN.out)
      clear HR HK HP HT HN hbl htl htk
      go_wp2_with fail
      go_ret2
      exact made_blocks HF.out.1 HF.out.2 (HO.out) hb
end Go.Proofs.Ytimkjhjdddllcaa
