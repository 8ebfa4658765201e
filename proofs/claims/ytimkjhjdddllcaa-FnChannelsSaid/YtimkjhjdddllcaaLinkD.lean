/- What EncodeBlock and DecodeBlock return, in the program and in the reference, for strings of at most 2^40 bytes. -/
import Derived.Test.YtimkjhjdddllcaaBase
import Derived.Test.YtimkjhjdddllcaaLinkC
import Derived.Test.YtimkjhjdddllcaaPlBlock
import Derived.Deep.RegionLaw
namespace Go.Proofs.Ytimkjhjdddllcaa
open Go.RowKit Sat

def encB (s : ByteArray) : ByteArray := if s.size ≤ 200 then str (encodeBlock s.data.toList) else str []
def encTo (l : List UInt8) (k : Nat) : List UInt8 := (List.range (2 * k)).map (encByte l)
theorem encTo_succ (l : List UInt8) (k : Nat) : encTo l (k + 1) = encTo l k ++ [encByte l (2 * k), encByte l (2 * k + 1)] := by
  unfold encTo
  rw [show 2 * (k + 1) = 2 * k + 1 + 1 by omega, List.range_succ, List.range_succ]
  simp
theorem encTo_length (l : List UInt8) (k : Nat) : (encTo l k).length = 2 * k := by simp [encTo]
theorem enc_hi (l : List UInt8) (k : Nat) (x : Nat) (hx : byteAt l k = x) (h : x < 256) : IntKind.u8.wrap (encI (IntKind.i64.wrap ((x : Int) / 16))) = ((encByte l (2 * k)).toNat : Int) := by
  have h1 : IntKind.i64.wrap ((x : Int) / 16) = ((x / 16 : Nat) : Int) := by rw [IntKind.wrap_i64]; omega
  have h2 := encN_lt (x / 16) (by omega)
  rw [h1, encI_yes (by omega), IntKind.wrap_u8]
  unfold encByte
  rw [if_pos (by omega), show 2 * k / 2 = k by omega, hx, UInt8.toNat_ofNat']
  omega
theorem enc_lo (l : List UInt8) (k : Nat) (x : Nat) (hx : byteAt l k = x) (h : x < 256) : IntKind.u8.wrap (encI (IntKind.i64.wrap (bits .and .u8 (x : Int) 15))) = ((encByte l (2 * k + 1)).toNat : Int) := by
  have h1 : IntKind.i64.wrap (bits .and .u8 (x : Int) 15) = ((x % 16 : Nat) : Int) := by rw [u8_and15 (x := (x : Int)) (by omega) (by omega), IntKind.wrap_i64]; omega
  have h2 := encN_lt (x % 16) (by omega)
  rw [h1, encI_yes (by omega), IntKind.wrap_u8]
  unfold encByte
  rw [if_neg (by omega), show (2 * k + 1) / 2 = k by omega, hx, UInt8.toNat_ofNat']
  omega
/-- append(v, news...) as one step of a region that draws its order -/
theorem step_app {ops : Array Oper} {o : Oper} {a : Act} {K : Act → World → Prop} {Q : Exit → Act → World → Prop} {E : Prop} {W : World} {c : Nat} (hgd : o.guard = none) (s x : Operand)
    (ho : o.op = .call { callee := .builtin .append, args := #[s, x], argTypes := #[22, 22] })
    (B : Nat) (v : Value) (l news : List UInt8) (hs : a.eval s = v) (hown : BOwn W B v l) (g : Nat) (hx : a.eval x = .slice (some ⟨g, 0, none⟩) news.length c) (hc : ∀ j, j < news.length → W.cell? ⟨g, j, none⟩ = some (.int .u8 ((news.getD j 0).toNat : Int)))
    (hsz : l.length + news.length ≤ 1099511627776) (hB : B ≤ W.heap.size)
    (h : ∀ v' w', BOwn w' B v' (l ++ news) → Below B W w' → K (a.put o.dst v') w') : if Region.wanted o (yielded ops a.tmps) = true then Oper.wp Try.prog o a W K Q else E := by
  have hw : Region.wanted o (yielded ops a.tmps) = true := by simp [Region.wanted, hgd]
  rw [if_pos hw]
  obtain ⟨i0, hi, hz0, hz1, hz2⟩ := info_parts info8
  refine wp_append_own W s x 22 ho B 5 i0 (.int .u8 0) 1 1 Try.underlying22 hi hz0 hz1 hz2 rfl (by decide) v l.length (Bys l) hs hown.out ⟨g, 0, none⟩ news.length c (Bys news) hx (by simp [Bys_length]) ?_ (Bys_one news) (by unfold maxLen; omega) (by omega) hB ?_
  · intro j u hj
    have hlt : j < (Bys news).length := (List.getElem?_eq_some_iff.1 hj).1
    rw [Bys_length] at hlt
    have e : (⟨g, 0, none⟩ : Addr).add j = ⟨g, j, none⟩ := by unfold Addr.add; split <;> simp_all
    rw [Bys_at news j hlt] at hj
    rw [e, hc j hlt, ← hj, List.getD_eq_getElem?_getD, List.getElem?_eq_getElem hlt]; rfl
  · intro v' w' hown' hg _
    refine h v' w' ?_ ?_
    · unfold BOwn; rw [Bys_append, List.length_append]; exact hown'
    · refine Below.grown (Below.refl B W) hg hB ?_
      intro k hk
      exact (hown.out.lt k hk).1
theorem two_new (wr : World) (e1 e2 : Int) (b1 b2 : UInt8) (h1 : e1 = (b1.toNat : Int)) (h2 : e2 = (b2.toNat : Int)) : ∀ j, j < [b1, b2].length → (wr.alloc (.cells #[.int .u8 e1, .int .u8 e2] 5)).cell? ⟨wr.heap.size, j, none⟩ = some (.int .u8 (([b1, b2].getD j 0).toNat : Int)) := by
  intro j hj
  rw [World.cell?_alloc_mark wr _ _ (0, 0) j]
  simp at hj
  obtain rfl | rfl : j = 0 ∨ j = 1 := by omega
  · simp [h1]
  · simp [h2]
set_option maxHeartbeats 1600000 in
theorem i_EncodeBlock_in (s : ByteArray) (w : World) (hs : s.size ≤ 200) :
    Calls Try.prog 36 #[.string s] w fun e w' => e = .returned (.string (str (encodeBlock s.data.toList))) ∧ Below w.heap.size w w' := by
  have HL := hide (show s.data.toList.length = s.size by simp)
  go_enter Try.func36, Try.ntmps36
  go_wp2_with (at_make; refine wpList_mk0 rfl _ _ rfl _ (2 * s.size) rfl rfl (by omega) (by omega) ?_; intro w1 hown hb)
  go_loopw [3, 4] (fun v iv wr => ∃ k : Nat, k ≤ s.size ∧ iv = .int .i64 k ∧ BOwn wr w.heap.size v (encTo s.data.toList k) ∧ Below w.heap.size w wr) (fun _ iv _ => s.size - (intOf iv).toNat)
  case atStart => exact ⟨0, Nat.zero_le _, rfl, hown, hb⟩
  case round =>
    clear hown hb
    obtain ⟨k, hk, rfl, hown, hb⟩ := hrel
    have hsz := hb.size
    by_cases hlt : k < s.size
    · have hx : (s[k]'hlt).toNat < 256 := UInt8.toNat_lt _
      have hby : byteAt s.data.toList k = (s[k]'hlt).toNat := by unfold byteAt; rw [List.getD_eq_getElem?_getD, List.getElem?_eq_getElem (by simpa using hlt)]; rfl
      have hhi := hide (enc_hi s.data.toList k _ hby hx)
      have hlo := hide (enc_lo s.data.toList k _ hby hx)
      have hes := hide (encTo_succ s.data.toList k)
      have hln := encTo_length s.data.toList k
      have HLN := hide hln
      clear hby hln
      go_wp2
      go_region_law (first | (refine step_app rfl _ _ rfl w.heap.size _ _ [encByte s.data.toList (2 * k), encByte s.data.toList (2 * k + 1)] rfl (hown.alloc _) wr.heap.size rfl (two_new wr _ _ _ _ hhi.out hlo.out) (by rw [HLN.out]; simp; omega) (by simp; omega) ?_; intro v' w' hown' hb') | (go_simp; go_at_call 49; refine (i_EncodeNibble _ _).mono ?_; rintro e w' ⟨rfl, rfl⟩))
      all_goals
        clear hown
        go_wp2
        go_roundw
        case rel => exact ⟨k + 1, by omega, by go_num, by rw [hes.out]; exact hown', ((hb.alloc hsz _).drew).trans hb'⟩
        case measure => simp [intOf]; omega
    · obtain rfl : k = s.size := by omega
      have hs' := hown.str
      rw [show encTo s.data.toList s.size = encodeBlock s.data.toList by unfold encTo encodeBlock; rw [HL.out]] at hs'
      clear hown
      go_wp2
      go_ret
      exact ⟨rfl, hb⟩
set_option maxHeartbeats 400000 in
theorem i_EncodeBlock (s : ByteArray) (w : World) (hs : s.size ≤ 1099511627776) :
    Calls Try.prog 36 #[.string s] w fun e w' => e = .returned (.string (encB s)) ∧ Below w.heap.size w w' := by
  by_cases h : s.size ≤ 200
  · have := i_EncodeBlock_in s w h
    unfold encB
    rw [if_pos h]
    exact this
  · have H := hide (show encB s = str [] by unfold encB; rw [if_neg h])
    go_enter Try.func36, Try.ntmps36
    go_wp2
    go_ret
    exact ⟨ret_str H.out.symm, Below.refl _ _⟩
end Go.Proofs.Ytimkjhjdddllcaa
