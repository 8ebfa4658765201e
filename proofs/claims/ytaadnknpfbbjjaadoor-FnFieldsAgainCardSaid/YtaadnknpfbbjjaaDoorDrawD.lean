/- What the reference's draws of texts do: DrawEncodeHex and DrawSplitFields draw a text that is not long; nothing but new blocks is turned. -/
import Derived.Test.YtaadnknpfbbjjaaDoorDrawC
namespace Go.Proofs.YtaadnknpfbbjjaaDoor
open Go.RowKit Sat
set_option linter.unusedVariables false
set_option linter.unusedSimpArgs false

/-- a text of at most n bytes is handed back -/
def TextUpTo (n : Nat) (w : World) (e : Ending) (w' : World) : Prop := ∃ s : ByteArray, s.size ≤ n ∧ e = .returned (.string s) ∧ Below w.heap.size w w'
theorem str_sz (l : List UInt8) : (str l).size = l.length := rfl
theorem u8_int' (x : Int) (h0 : 0 ≤ x) (h1 : x ≤ 255) : ((UInt8.ofNat x.toNat).toNat : Int) = x := by
  rw [UInt8.toNat_ofNat']; omega
set_option maxHeartbeats 1600000 in
theorem s_Text (B g n : Nat) (w : World) (hcur : Cur w B g) (hn : n ≤ 5000) :
    Calls Tryd.prog 26 #[.pointer (some ⟨g, 0, none⟩), .int .i64 n] w (DrawnT n B g w) := by
  have hgl := hcur.lt
  have HC := hide hcur
  clear hcur
  go_enter Tryd.func26, Tryd.ntmps26
  go_wp2_with fail
  have hown := BOwn.lit w
  have hb : Below w.heap.size w (w.alloc (.cells #[] 5)) := (Below.refl _ _).alloc (Nat.le_refl _) _
  go_loopw [5, 6] (fun v iv wr => ∃ l : List UInt8, l.length ≤ n ∧ iv = .int .i64 (l.length : Nat) ∧ BOwn wr w.heap.size v l ∧ Cur wr B g ∧ w.grownBy wr (some g)) (fun v _ _ => n - slen v)
  case atStart => exact ⟨[], Nat.zero_le _, rfl, hown, HC.out.below hb, ⟨rfl, rfl, rfl, hb.size, fun k hk _ => hb.block k hk⟩⟩
  case round =>
    clear hown hb HC
    obtain ⟨l, hl, rfl, hown, hcur, hgr⟩ := hrel
    obtain ⟨A, c, hv⟩ := hown.form
    subst hv
    have hsz := hgr.size
    have HO := hide hown
    have HC := hide hcur
    have HG := hide hgr
    clear hown hcur hgr
    by_cases hlt : l.length < n
    · go_wp2_with fail
      refine (s_Byte B g _ HC.out).mono ?_
      rintro e w1 ⟨x, hx, rfl, hc, hg⟩
      have HC1 := hide hc
      have HG1 := hide (grown_trans HG.out hg)
      have HO1 := hide (HO.out.grown hg (by omega))
      have hs1 := hg.size
      have hx0 := hx.1
      have hx1 := hx.2
      have HX := hide (u8_int' x hx0 hx1)
      clear hc hg HO HC HG hx
      go_wp2_with (at_builtin; refine wpList_app rfl _ _ rfl w.heap.size _ l [UInt8.ofNat x.toNat] rfl HO1.out rfl ?c1 ?c2 ?c3 ?_)
      case c1 => show #[Value.int .u8 x] = #[Value.int .u8 ((UInt8.ofNat x.toNat).toNat : Int)]; rw [HX.out]
      case c2 => simp; omega
      case c3 => omega
      · intro v' w2 hown2 hb2
        have HO2 := hide hown2
        have HC2 := hide (HC1.out.belowM hb2 (by omega))
        have HG2 := hide (grown_below HG1.out hb2)
        clear hown2 hb2 HO1 HC1 HG1
        obtain ⟨A2, c2, hv2⟩ := HO2.out.form
        subst hv2
        go_wp2
        go_roundw
        case rel => exact ⟨l ++ [UInt8.ofNat x.toNat], by simp; omega, by simp, HO2.out, HC2.out, HG2.out⟩
        case measure => simp [slen]; omega
    · have hs' := HO.out.str
      have hle : l.length = n := by omega
      have HE := hide hle
      clear HO hle
      go_wp2
      go_ret
      exact ⟨l, HE.out, rfl, HC.out, HG.out⟩
set_option maxHeartbeats 1600000 in
theorem s_Long (n : Nat) (m : Int) (x : UInt8) (w : World) (hm : m = (n : Int)) (hn : n ≤ 1000000) :
    Calls Tryd.prog 25 #[.int .i64 m, .int .u8 (x.toNat : Int)] w (TextUpTo n w) := by
  subst hm
  go_enter Tryd.func25, Tryd.ntmps25
  go_wp2_with (at_make; refine wpList_mk rfl _ _ rfl _ _ n rfl rfl rfl rfl (by omega) ?_; intro w1 hown hb)
  go_loopw [6] (fun iv wr => ∃ (k : Nat) (l : List UInt8), k ≤ n ∧ l.length = n ∧ iv = .int .i64 k ∧ BOwn wr w.heap.size (.slice (some ⟨w.heap.size, 0, none⟩) n n) l ∧ Below w.heap.size w wr) (fun i _ => n - (intOf i).toNat)
  case atStart => exact ⟨0, _, Nat.zero_le _, List.length_replicate, rfl, hown, hb⟩
  case round =>
    clear hown hb
    obtain ⟨k, l, hk, hl, rfl, hown, hb⟩ := hrel
    by_cases hlt : k < n
    · have hc := hown.cell hl k hlt
      have hf := hown.frozen hl k
      have hst := hide (hown.stored hl k x)
      have hle := hide (show (l.set k x).length = n by rw [List.length_set]; exact hl)
      have HB := hide hb
      clear hown hl hb
      generalize l.getD k 0 = y at *
      generalize l.set k x = l2 at *
      go_wp2
      go_roundw
      case rel => exact ⟨k + 1, l2, by omega, hle.out, by go_num, hst.out, HB.out.setCell (Nat.le_refl _) _⟩
      case measure => simp [intOf]; omega
    · obtain rfl : k = n := by omega
      subst hl
      have hs := hown.str
      clear hown
      go_wp2
      go_ret
      exact ⟨_, by rw [str_sz]; omega, rfl, hb⟩
set_option maxHeartbeats 1600000 in
theorem s_DrawEncodeHex (a : Option Addr) (len cap : Nat) (l : List UInt8) (w : World) (h : IsBytes w w.heap.size a len l) (hl : len ≤ 1048576) :
    Calls Tryd.prog 12 #[.slice a len cap] w (TextUpTo 1000000 w) := by
  go_enter Tryd.func12, Tryd.ntmps12
  go_wp2_with fail
  refine (s_New _ _ _ l _ h hl).mono ?_
  rintro e w1 ⟨rfl, hc, hb⟩
  have HC := hide hc
  have HB := hide hb
  have hz := hb.size
  clear hc hb h
  go_wp2_with fail
  refine (s_Once _ _ _ _ HC.out (by omega) (by omega)).mono ?_
  rintro e w2 ⟨o, rfl, hc, hg⟩
  have HC2 := hide hc
  have HG2 := hide hg
  clear hc hg
  cases o
  · go_wp2_with fail
    refine (s_Below _ _ _ _ HC2.out (by omega) (by omega)).mono ?_
    rintro e w3 ⟨x, hx, rfl, hc, hg⟩
    obtain ⟨n, rfl⟩ := Int.eq_ofNat_of_zero_le hx.1
    have hn : n < 30 := by have := hx.2; omega
    have HC3 := hide hc
    have HG3 := hide hg
    clear hc hg hx
    go_wp2_with fail
    refine (s_Text _ _ n _ HC3.out (by omega)).mono ?_
    rintro e w4 ⟨t, ht, rfl, hc, hg⟩
    have HG4 := hide hg
    have HT := hide ht
    clear hc hg ht
    go_wp2_with fail
    go_ret
    exact ⟨_, by rw [str_sz, HT.out]; omega, rfl, HB.out.trans (below_of_grown (grown_trans (grown_trans HG2.out HG3.out) HG4.out) (Nat.le_refl _) hz)⟩
  · go_wp2_with fail
    refine (s_Below _ _ _ _ HC2.out (by omega) (by omega)).mono ?_
    rintro e w3 ⟨x, hx, rfl, hc, hg⟩
    have hx0 := hx.1
    have hx1 : x < 2 := by have := hx.2; omega
    have HG3 := hide hg
    clear hc hg hx
    go_wp2_with fail
    refine (s_Long (20000 + x).toNat _ 200 _ (by omega) (by omega)).mono ?_
    rintro e w4 ⟨t, ht, rfl, hb⟩
    have HB4 := hide hb
    have HT := hide ht
    clear hb ht
    go_wp2_with fail
    go_ret
    exact ⟨t, by have := HT.out; omega, rfl, (HB.out.trans (below_of_grown (grown_trans HG2.out HG3.out) (Nat.le_refl _) hz)).trans (HB4.out.mono (by have := (grown_trans HG2.out HG3.out).size; omega))⟩
end Go.Proofs.YtaadnknpfbbjjaaDoor
