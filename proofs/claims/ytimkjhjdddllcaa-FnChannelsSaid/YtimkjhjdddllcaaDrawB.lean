/- What the reference's draws of bytes do: DrawBytes draws fewer than thirty bytes; nothing but new blocks is turned. -/
import Derived.Test.YtimkjhjdddllcaaDraw
namespace Go.Proofs.Ytimkjhjdddllcaa
open Go.RowKit Sat

def slen : Value → Nat
  | .slice _ n _ => n
  | _ => 0
theorem BOwn.form {w : World} {B : Nat} {v : Value} {l : List UInt8} (h : BOwn w B v l) : ∃ A c, v = .slice A l.length c := by
  rcases h.2 with ⟨rfl, hn⟩ | ⟨g, cap, cur, rfl, _⟩
  · rw [hn]; exact ⟨_, _, rfl⟩
  · exact ⟨_, _, rfl⟩
theorem Cur.belowM {w w' : World} {B g M : Nat} (h : Cur w B g) (hb : Below M w w') (hg : g < M) : Cur w' B g := by
  obtain ⟨hB, a, len, cap, l, i, x, hbk, hby, hl, h0, h1⟩ := h
  exact ⟨hB, a, len, cap, l, i, x, (hb.block g hg).trans hbk, hby.below (hb.mono (by omega)), hl, h0, h1⟩
theorem grown_below {w w1 w2 : World} {row : Option Nat} (h1 : w.grownBy w1 row) (h2 : Below w.heap.size w1 w2) : w.grownBy w2 row :=
  ⟨h2.os.trans h1.os, h2.tape.trans h1.tape, h2.output.trans h1.output, Nat.le_trans h1.size h2.size, fun k hk hne => (h2.block k hk).trans (h1.block k hk hne)⟩
/-- what a draw of a text of n bytes leaves -/
def DrawnT (n : Nat) (B g : Nat) (w : World) (e : Ending) (w' : World) : Prop := ∃ l : List UInt8, l.length = n ∧ e = .returned (.string (str l)) ∧ Cur w' B g ∧ w.grownBy w' (some g)
theorem u8_int (x : Int) : x % 256 = ((UInt8.ofNat (x % 256).toNat).toNat : Int) := by
  rw [UInt8.toNat_ofNat']; omega
set_option maxHeartbeats 1600000 in
theorem s_Bytes (B g n : Nat) (w : World) (hcur : Cur w B g) (hn : n ≤ 1000000) :
    Calls Try.prog 32 #[.pointer (some ⟨g, 0, none⟩), .int .i64 n] w (DrawnT n B g w) := by
  have hgl := hcur.lt
  have HC := hide hcur
  clear hcur
  go_enter Try.func32, Try.ntmps32
  go_wp2_with fail
  have hown := BOwn.lit w
  have hb : Below w.heap.size w (w.alloc (.cells #[] 5)) := (Below.refl _ _).alloc (Nat.le_refl _) _
  go_loopw [5] (fun v wr => ∃ l : List UInt8, l.length ≤ n ∧ BOwn wr w.heap.size v l ∧ Cur wr B g ∧ w.grownBy wr (some g)) (fun v _ => n - slen v)
  case atStart => exact ⟨[], Nat.zero_le _, hown, HC.out.below hb, ⟨rfl, rfl, rfl, hb.size, fun k hk _ => hb.block k hk⟩⟩
  case round =>
    clear hown hb HC
    obtain ⟨l, hl, hown, hcur, hgr⟩ := hrel
    obtain ⟨A, c, hv⟩ := hown.form
    subst hv
    have hsz := hgr.size
    have HO := hide hown
    have HC := hide hcur
    have HG := hide hgr
    clear hown hcur hgr
    by_cases hlt : l.length < n
    · go_wp2_with fail
      refine (s_Below B g _ _ HC.out (by omega) (by omega)).mono ?_
      rintro e w1 ⟨x, hx, rfl, hc, hg⟩
      have HC1 := hide hc
      have HG1 := hide (grown_trans HG.out hg)
      have HO1 := hide (HO.out.grown hg (by omega))
      have hs1 := hg.size
      have hx0 := hx.1
      have HX := hide (u8_int x)
      clear hc hg HO HC HG hx
      go_wp2_with (at_builtin; refine wpList_app rfl _ _ rfl w.heap.size _ l [UInt8.ofNat (x % 256).toNat] rfl HO1.out rfl ?c1 ?c2 ?c3 ?_)
      case c1 => show #[Value.int .u8 (x % 256)] = #[Value.int .u8 ((UInt8.ofNat (x % 256).toNat).toNat : Int)]; rw [← HX.out]
      case c2 => simp; omega
      case c3 => omega
      · intro v' w2 hown2 hb2
        have HO2 := hide hown2
        have HC2 := hide (HC1.out.belowM hb2 (by omega))
        have HG2 := hide (grown_below HG1.out hb2)
        clear hown2 hb2 HO1 HC1 HG1
        obtain ⟨A2, c2, hv2⟩ := HO2.out.form
        subst hv2
        go_wp2
        go_roundw
        case rel => exact ⟨l ++ [UInt8.ofNat (x % 256).toNat], by simp; omega, HO2.out, HC2.out, HG2.out⟩
        case measure => simp [slen]; omega
    · have hs' := HO.out.str
      have hle : l.length = n := by omega
      have HE := hide hle
      clear HO hle
      go_wp2
      go_ret
      exact ⟨l, HE.out, rfl, HC.out, HG.out⟩
/-- a text of fewer than n bytes is handed back -/
def SomeText (n : Nat) (w : World) (e : Ending) (w' : World) : Prop := ∃ l : List UInt8, l.length < n ∧ e = .returned (.string (str l)) ∧ Below w.heap.size w w'
set_option maxHeartbeats 1600000 in
theorem s_DrawBytes (a : Option Addr) (len cap : Nat) (l : List UInt8) (w : World) (h : IsBytes w w.heap.size a len l) (hl : len ≤ 1048576) :
    Calls Try.prog 10 #[.slice a len cap] w (SomeText 30 w) := by
  go_enter Try.func10, Try.ntmps10
  go_wp2_with fail
  refine (s_New _ _ _ l _ h hl).mono ?_
  rintro e w1 ⟨rfl, hc, hb⟩
  have HC := hide hc
  have HB := hide hb
  have hz := hb.size
  clear hc hb h
  go_wp2_with fail
  refine (s_Below _ _ _ _ HC.out (by omega) (by omega)).mono ?_
  rintro e w2 ⟨x, hx, rfl, hc, hg⟩
  obtain ⟨n, rfl⟩ := Int.eq_ofNat_of_zero_le hx.1
  have hn : n < 30 := by have := hx.2; omega
  have HC2 := hide hc
  have HG2 := hide hg
  clear hc hg hx HC
  go_wp2_with fail
  refine (s_Bytes _ _ n _ HC2.out (by omega)).mono ?_
  rintro e w3 ⟨t, ht, rfl, hc, hg⟩
  have HG3 := hide hg
  have HT := hide ht
  clear hc hg ht HC2
  go_wp2_with fail
  go_ret
  exact ⟨t, by rw [HT.out]; exact hn, rfl, HB.out.trans (below_of_grown (grown_trans HG2.out HG3.out) (Nat.le_refl _) hz)⟩
end Go.Proofs.Ytimkjhjdddllcaa
