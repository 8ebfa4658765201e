/- What the reference's draw of a line does: DrawSplitFields draws a text that is not long; nothing but new blocks is turned. -/
import Derived.Test.YtaadnknpfbbjjaaDoorDrawD
import Derived.Test.YtaadnknpfbbjjaaDoorNumA
namespace Go.Proofs.YtaadnknpfbbjjaaDoor
open Go.RowKit Sat
set_option linter.unusedVariables false
set_option linter.unusedSimpArgs false

theorem one_textE (wr : World) (c : UInt8) (v : Int) (h : (c.toNat : Int) = v) : (convert 24 9 (.slice (some ⟨wr.heap.size, 0, none⟩) 1 1)).run Tryd.prog (wr.alloc (.cells #[.int .u8 v] 5)) = .ok (.string (str [c])) (wr.alloc (.cells #[.int .u8 v] 5)) := by
  subst h; exact one_text wr c
theorem s_Long_le (M : Nat) (m : Int) (x : UInt8) (w : World) (h0 : 0 ≤ m) (h1 : m ≤ M) (hM : M ≤ 1000000) :
    Calls Tryd.prog 25 #[.int .i64 m, .int .u8 (x.toNat : Int)] w (TextUpTo M w) :=
  (s_Long m.toNat m x w (by omega) (by omega)).mono fun e w' ⟨s, hs, he, hb⟩ => ⟨s, by omega, he, hb⟩
set_option maxHeartbeats 400000 in
theorem s_Pick (B g b n M : Nat) (w : World) (hcur : Cur w B g) (hbg : b ≠ g) (hlt : b < w.heap.size) (hn : 1 ≤ n) (hn' : n ≤ 1000000) (hz : ∀ j, j < n → ∃ z : ByteArray, z.size ≤ M ∧ w.cell? ⟨b, j, none⟩ = some (.string z)) :
    Calls Tryd.prog 29 #[.pointer (some ⟨g, 0, none⟩), .slice (some ⟨b, 0, none⟩) n n] w fun e w' => (∃ z : ByteArray, z.size ≤ M ∧ e = .returned (.string z)) ∧ Cur w' B g ∧ w.grownBy w' (some g) := by
  have H := hide hcur
  have HZ := hide hz
  clear hcur hz
  go_enter Tryd.func29, Tryd.ntmps29
  go_wp2_with fail
  refine (s_Below B g _ _ H.out (by omega) (by omega)).mono ?_
  rintro e w1 ⟨x, hx, rfl, hc, hg⟩
  obtain ⟨j, rfl⟩ := Int.eq_ofNat_of_zero_le hx.1
  have hj : j < n := by have := hx.2; omega
  obtain ⟨z, hz, hcz⟩ := HZ.out j hj
  have hcell : w1.cell? ⟨b, j, none⟩ = some (.string z) := (World.cell?_of_block (hg.block b hlt (by intro e; injection e with e; exact hbg e))).trans hcz
  have HC := hide hc
  have HG := hide hg
  clear hc hg hx hcz
  go_wp2_with fail
  go_ret
  exact ⟨⟨_, hz, rfl⟩, HC.out, HG.out⟩
set_option maxRecDepth 100000 in
set_option maxHeartbeats 3200000 in
theorem s_DrawSplitFields (a : Option Addr) (len cap : Nat) (l : List UInt8) (w : World) (h : IsBytes w w.heap.size a len l) (hl : len ≤ 1048576) :
    Calls Tryd.prog 15 #[.slice a len cap] w (TextUpTo 100000 w) := by
  go_enter Tryd.func15, Tryd.ntmps15
  go_wp2_with fail
  refine (s_New _ _ _ l _ h hl).mono ?_
  rintro e w1 ⟨rfl, hc, hb⟩
  have HC := hide hc
  have HB := hide hb
  have hz1 := hb.size
  clear hc hb h
  go_wp2_with fail
  refine (s_Below _ _ _ _ HC.out (by omega) (by omega)).mono ?_
  rintro e w2 ⟨x, hx, rfl, hc, hg⟩
  obtain ⟨Na, rfl⟩ := Int.eq_ofNat_of_zero_le hx.1
  have hNa : Na < 9 := by have := hx.2; omega
  replace HC := hide hc
  have HG := hide hg
  clear hc hg hx
  go_wp2_with fail
  refine (s_Once _ _ _ _ HC.out (by omega) (by omega)).mono ?_
  rintro e w3 ⟨o, rfl, hc, hg⟩
  replace HC := hide hc
  replace HG := hide (grown_trans HG.out hg)
  clear hc hg
  cases o
  · go_wp2_with fail
    go_loopw [5, 6] (fun sv iv wr => ∃ (t : ByteArray) (i : Nat), i ≤ Na ∧ sv = .string t ∧ iv = .int .i64 i ∧ t.size ≤ 10 * i ∧ Hid (Cur wr w.heap.size w.heap.size) ∧ Hid (w1.grownBy wr (some w.heap.size))) (fun _ iv _ => Na - (intOf iv).toNat)
    case atStart => exact ⟨⟨#[]⟩, 0, Nat.zero_le _, rfl, rfl, Nat.le_refl _, HC.out, HG.out⟩
    case round =>
      clear HC HG
      obtain ⟨t, i, hi, rfl, rfl, ht, HC, HG⟩ := hrel
      by_cases hlt : i < Na
      · rcases (show 0 < i ∨ i = 0 by omega) with h0 | h0
        · have d0 : decide ((0 : Int) < (i : Int)) = true := decide_eq_true (by omega)
          go_wp2_with fail
          refine (s_Below _ _ _ _ HC.out (by omega) (by omega)).mono ?_
          rintro e wa ⟨y, hy, rfl, hc, hg⟩
          have HCa := hide hc
          have HGa := hide (grown_trans HG.out hg)
          have hy0 := hy.1
          have hy1 : y < 2 := by have := hy.2; omega
          clear hc hg hy HC HG
          go_wp2_with fail
          refine (s_Below _ _ _ _ HCa.out (by omega) (by omega)).mono ?_
          rintro e wb ⟨z, hz, rfl, hc, hg⟩
          have HCb := hide hc
          have HGb := hide (grown_trans HGa.out hg)
          have hz0 := hz.1
          have hz1 : z < 3 := by have := hz.2; omega
          clear hc hg hz HCa HGa
          have hq : 0 ≤ y * z ∧ y * z ≤ 2 := by
            obtain rfl | rfl : y = 0 ∨ y = 1 := by omega
            · omega
            · omega
          go_wp2_with fail
          refine (s_Long_le 3 _ 32 _ (by (try unfold wrap64); omega) (by (try unfold wrap64); omega) (by omega)).mono ?_
          rintro e wc ⟨u, hu, rfl, hb⟩
          have HC := hide (HCb.out.below hb)
          have HG := hide (grown_below HGb.out (hb.mono HGb.out.size))
          clear hb HCb HGb hq
          have hadd := fun w => run_string_add_sum (P := Tryd.prog) (w := w) t u (by omega)
          go_wp2_with fail
          clear hadd
          have ht2 : (t ++ u).size ≤ 10 * i + 3 := by rw [ByteArray.size_append]; omega
          clear hu ht
          generalize t ++ u = t2 at *
          go_loopw [5, 7] (fun sv kv wr => ∃ (q : ByteArray) (k : Nat), k ≤ 5 ∧ sv = .string q ∧ kv = .int .i64 k ∧ q.size ≤ 10 * i + 3 + k ∧ Hid (Cur wr w.heap.size w.heap.size) ∧ Hid (w1.grownBy wr (some w.heap.size))) (fun _ kv _ => 5 - (intOf kv).toNat)
          case atStart => exact ⟨t2, 0, by omega, rfl, rfl, by omega, HC.out, HG.out⟩
          case round =>
            clear ht2 HC HG
            obtain ⟨q, k, hk, rfl, rfl, hq, HC, HG⟩ := hrel
            go_wp2_with fail
            refine (s_Below _ _ _ _ HC.out (by omega) (by omega)).mono ?_
            rintro e wa ⟨y, hy, rfl, hc, hg⟩
            have HCa := hide hc
            have HGa := hide (grown_trans HG.out hg)
            have hy0 := hy.1
            have hy1 : y < 5 := by have := hy.2; omega
            clear hc hg hy HC HG
            by_cases hky : (k : Int) ≤ y
            · go_wp2_with fail
              refine (s_Below _ _ _ _ HCa.out (by omega) (by omega)).mono ?_
              rintro e wb ⟨z, hz, rfl, hc, hg⟩
              have HCb := hide hc
              have HGb := hide (grown_trans HGa.out hg)
              have hz0 := hz.1
              have hz1 : z < 94 := by have := hz.2; omega
              clear hc hg hz HCa HGa
              obtain ⟨ch, hch⟩ : ∃ ch : UInt8, (ch.toNat : Int) = 33 + z := ⟨UInt8.ofNat (33 + z).toNat, by rw [UInt8.toNat_ofNat']; omega⟩
              have hcv := one_textE wb ch (33 + z) hch
              have hs1 : (str [ch]).size = 1 := rfl
              have hadd := fun w => run_string_add_sum (P := Tryd.prog) (w := w) q (str [ch]) (by omega)
              have hq2 : (q ++ str [ch]).size ≤ 10 * i + 3 + (k + 1) := by rw [ByteArray.size_append]; omega
              go_wp2_with fail
              clear hcv hadd
              go_roundw
              case rel => exact ⟨q ++ str [ch], k + 1, by omega, rfl, by go_num, hq2, HCb.out.below ((Below.refl _ _).alloc (Nat.le_refl _) _), grown_below HGb.out (((Below.refl wb.heap.size wb).alloc (Nat.le_refl _) _).mono HGb.out.size)⟩
              case measure => simp [intOf]; omega
            · go_wp2_with fail
              go_roundw
              case rel => exact ⟨q, i + 1, by omega, rfl, by go_num, by omega, HCa.out, HGa.out⟩
              case measure => simp [intOf]; omega
        · subst h0
          go_wp2_with fail
          refine (s_Once _ _ _ _ HC.out (by omega) (by omega)).mono ?_
          rintro e wo ⟨o, rfl, hc, hg⟩
          replace HC := hide hc
          replace HG := hide (grown_trans HG.out hg)
          clear hc hg
          cases o
          · go_wp2_with fail
            have ht2 : t.size ≤ 10 * 0 + 3 := by omega
            clear ht
            generalize t = t2 at *
            go_loopw [5, 7] (fun sv kv wr => ∃ (q : ByteArray) (k : Nat), k ≤ 5 ∧ sv = .string q ∧ kv = .int .i64 k ∧ q.size ≤ 10 * 0 + 3 + k ∧ Hid (Cur wr w.heap.size w.heap.size) ∧ Hid (w1.grownBy wr (some w.heap.size))) (fun _ kv _ => 5 - (intOf kv).toNat)
            case atStart => exact ⟨t2, 0, by omega, rfl, rfl, by omega, HC.out, HG.out⟩
            case round =>
              clear ht2 HC HG
              obtain ⟨q, k, hk, rfl, rfl, hq, HC, HG⟩ := hrel
              go_wp2_with fail
              refine (s_Below _ _ _ _ HC.out (by omega) (by omega)).mono ?_
              rintro e wa ⟨y, hy, rfl, hc, hg⟩
              have HCa := hide hc
              have HGa := hide (grown_trans HG.out hg)
              have hy0 := hy.1
              have hy1 : y < 5 := by have := hy.2; omega
              clear hc hg hy HC HG
              by_cases hky : (k : Int) ≤ y
              · go_wp2_with fail
                refine (s_Below _ _ _ _ HCa.out (by omega) (by omega)).mono ?_
                rintro e wb ⟨z, hz, rfl, hc, hg⟩
                have HCb := hide hc
                have HGb := hide (grown_trans HGa.out hg)
                have hz0 := hz.1
                have hz1 : z < 94 := by have := hz.2; omega
                clear hc hg hz HCa HGa
                obtain ⟨ch, hch⟩ : ∃ ch : UInt8, (ch.toNat : Int) = 33 + z := ⟨UInt8.ofNat (33 + z).toNat, by rw [UInt8.toNat_ofNat']; omega⟩
                have hcv := one_textE wb ch (33 + z) hch
                have hs1 : (str [ch]).size = 1 := rfl
                have hadd := fun w => run_string_add_sum (P := Tryd.prog) (w := w) q (str [ch]) (by omega)
                have hq2 : (q ++ str [ch]).size ≤ 10 * 0 + 3 + (k + 1) := by rw [ByteArray.size_append]; omega
                go_wp2_with fail
                clear hcv hadd
                go_roundw
                case rel => exact ⟨q ++ str [ch], k + 1, by omega, rfl, by go_num, hq2, HCb.out.below ((Below.refl _ _).alloc (Nat.le_refl _) _), grown_below HGb.out (((Below.refl wb.heap.size wb).alloc (Nat.le_refl _) _).mono HGb.out.size)⟩
                case measure => simp [intOf]; omega
              · go_wp2_with fail
                go_roundw
                case rel => exact ⟨q, 0 + 1, by omega, rfl, by go_num, by omega, HCa.out, HGa.out⟩
                case measure => simp [intOf]; omega
          · go_wp2_with fail
            refine (s_Below _ _ _ _ HC.out (by omega) (by omega)).mono ?_
            rintro e wa ⟨y, hy, rfl, hc, hg⟩
            have HCa := hide hc
            have HGa := hide (grown_trans HG.out hg)
            have hy0 := hy.1
            have hy1 : y < 2 := by have := hy.2; omega
            clear hc hg hy HC HG
            go_wp2_with fail
            refine (s_Below _ _ _ _ HCa.out (by omega) (by omega)).mono ?_
            rintro e wb ⟨z, hz, rfl, hc, hg⟩
            have HCb := hide hc
            have HGb := hide (grown_trans HGa.out hg)
            have hz0 := hz.1
            have hz1 : z < 3 := by have := hz.2; omega
            clear hc hg hz HCa HGa
            have hq : 0 ≤ y * z ∧ y * z ≤ 2 := by
              obtain rfl | rfl : y = 0 ∨ y = 1 := by omega
              · omega
              · omega
            go_wp2_with fail
            refine (s_Long_le 3 _ 32 _ (by (try unfold wrap64); omega) (by (try unfold wrap64); omega) (by omega)).mono ?_
            rintro e wc ⟨u, hu, rfl, hb⟩
            have HC := hide (HCb.out.below hb)
            have HG := hide (grown_below HGb.out (hb.mono HGb.out.size))
            clear hb HCb HGb hq
            have hadd := fun w => run_string_add_sum (P := Tryd.prog) (w := w) t u (by omega)
            go_wp2_with fail
            clear hadd
            have ht2 : (t ++ u).size ≤ 10 * 0 + 3 := by rw [ByteArray.size_append]; omega
            clear hu ht
            generalize t ++ u = t2 at *
            go_loopw [5, 7] (fun sv kv wr => ∃ (q : ByteArray) (k : Nat), k ≤ 5 ∧ sv = .string q ∧ kv = .int .i64 k ∧ q.size ≤ 10 * 0 + 3 + k ∧ Hid (Cur wr w.heap.size w.heap.size) ∧ Hid (w1.grownBy wr (some w.heap.size))) (fun _ kv _ => 5 - (intOf kv).toNat)
            case atStart => exact ⟨t2, 0, by omega, rfl, rfl, by omega, HC.out, HG.out⟩
            case round =>
              clear ht2 HC HG
              obtain ⟨q, k, hk, rfl, rfl, hq, HC, HG⟩ := hrel
              go_wp2_with fail
              refine (s_Below _ _ _ _ HC.out (by omega) (by omega)).mono ?_
              rintro e wa ⟨y, hy, rfl, hc, hg⟩
              have HCa := hide hc
              have HGa := hide (grown_trans HG.out hg)
              have hy0 := hy.1
              have hy1 : y < 5 := by have := hy.2; omega
              clear hc hg hy HC HG
              by_cases hky : (k : Int) ≤ y
              · go_wp2_with fail
                refine (s_Below _ _ _ _ HCa.out (by omega) (by omega)).mono ?_
                rintro e wb ⟨z, hz, rfl, hc, hg⟩
                have HCb := hide hc
                have HGb := hide (grown_trans HGa.out hg)
                have hz0 := hz.1
                have hz1 : z < 94 := by have := hz.2; omega
                clear hc hg hz HCa HGa
                obtain ⟨ch, hch⟩ : ∃ ch : UInt8, (ch.toNat : Int) = 33 + z := ⟨UInt8.ofNat (33 + z).toNat, by rw [UInt8.toNat_ofNat']; omega⟩
                have hcv := one_textE wb ch (33 + z) hch
                have hs1 : (str [ch]).size = 1 := rfl
                have hadd := fun w => run_string_add_sum (P := Tryd.prog) (w := w) q (str [ch]) (by omega)
                have hq2 : (q ++ str [ch]).size ≤ 10 * 0 + 3 + (k + 1) := by rw [ByteArray.size_append]; omega
                go_wp2_with fail
                clear hcv hadd
                go_roundw
                case rel => exact ⟨q ++ str [ch], k + 1, by omega, rfl, by go_num, hq2, HCb.out.below ((Below.refl _ _).alloc (Nat.le_refl _) _), grown_below HGb.out (((Below.refl wb.heap.size wb).alloc (Nat.le_refl _) _).mono HGb.out.size)⟩
                case measure => simp [intOf]; omega
              · go_wp2_with fail
                go_roundw
                case rel => exact ⟨q, 0 + 1, by omega, rfl, by go_num, by omega, HCa.out, HGa.out⟩
                case measure => simp [intOf]; omega
      · go_wp2_with fail
        refine (s_Below _ _ _ _ HC.out (by omega) (by omega)).mono ?_
        rintro e wa ⟨x, hx, rfl, hc, hg⟩
        have hts : t.size ≤ 1000 := by omega
        have HCa := hide hc
        have HGa := hide (grown_trans HG.out hg)
        have hx0 := hx.1
        clear hc hg hx HC HG ht hi
        by_cases e0 : x = 0
        · subst e0
          go_wp2_with fail
          have hA : Below wa.heap.size wa (wa.alloc (.cells #[.string ⟨#[32]⟩, .string ⟨#[32, 32]⟩, .string ⟨#[9]⟩, .string ⟨#[10]⟩, .string ⟨#[127]⟩, .string ⟨#[233]⟩] 9)) := (Below.refl _ _).alloc (Nat.le_refl _) _
          have hlt := HCa.out.lt
          refine (s_Pick w.heap.size w.heap.size wa.heap.size 6 2 _ (HCa.out.below hA) (by omega) (by simp) (by omega) (by omega) ?_).mono ?_
          · intro j hj
            rw [World.cell?_alloc_mark wa _ _ (0, 0) j]
            obtain rfl | rfl | rfl | rfl | rfl | rfl : j = 0 ∨ j = 1 ∨ j = 2 ∨ j = 3 ∨ j = 4 ∨ j = 5 := by omega
            all_goals exact ⟨_, by decide, rfl⟩
          · rintro e wb ⟨⟨z, hz, rfl⟩, hc, hg⟩
            have HGb := hide (grown_trans HGa.out (grown_alloc hg))
            have hadd := fun w => run_string_add_sum (P := Tryd.prog) (w := w) t z (by omega)
            have hsz : (t ++ z).size ≤ 100000 := by rw [ByteArray.size_append]; omega
            clear hc hg hA HGa HCa
            go_wp2_with fail
            go_ret
            exact ⟨_, hsz, rfl, HB.out.trans (below_of_grown HGb.out (Nat.le_refl _) hz1)⟩
        · have d0 : (x == 0) = false := beq_eq_false_iff_ne.2 e0
          by_cases e1 : x = 1
          · subst e1
            by_cases h6 : t.size < 600
            · have h6' : (t.size : Int) < 600 := by omega
              go_wp2_with fail
              refine (s_Below _ _ _ _ HCa.out (by omega) (by omega)).mono ?_
              rintro e wb ⟨y, hy, rfl, hc, hg⟩
              have HGb := hide (grown_trans HGa.out hg)
              have hy0 := hy.1
              have hy1 : y < 2 := by have := hy.2; omega
              clear hc hg hy HCa HGa
              go_wp2_with fail
              refine (s_Long_le 1000 _ 32 _ (by omega) (by omega) (by omega)).mono ?_
              rintro e wc ⟨u, hu, rfl, hb⟩
              have HGc := hide (grown_below HGb.out (hb.mono HGb.out.size))
              clear hb HGb
              have hadd := fun w => run_string_add_sum (P := Tryd.prog) (w := w) t u (by omega)
              have hsz : (t ++ u).size ≤ 100000 := by rw [ByteArray.size_append]; omega
              go_wp2_with fail
              go_ret
              exact ⟨_, hsz, rfl, HB.out.trans (below_of_grown HGc.out (Nat.le_refl _) hz1)⟩
            · have h6' : ¬ (t.size : Int) < 600 := by omega
              go_wp2_with fail
              go_ret
              exact ⟨_, by omega, rfl, HB.out.trans (below_of_grown HGa.out (Nat.le_refl _) hz1)⟩
          · have d1 : (x == 1) = false := beq_eq_false_iff_ne.2 e1
            go_wp2_with fail
            go_ret
            exact ⟨_, by omega, rfl, HB.out.trans (below_of_grown HGa.out (Nat.le_refl _) hz1)⟩
  · clear hNa
    go_wp2_with fail
    refine (s_Below _ _ _ _ HC.out (by omega) (by omega)).mono ?_
    rintro e w4 ⟨x, hx, rfl, hc, hg⟩
    obtain ⟨N0, rfl⟩ := Int.eq_ofNat_of_zero_le hx.1
    have hN0 : N0 < 2 := by have := hx.2; omega
    replace HC := hide hc
    replace HG := hide (grown_trans HG.out hg)
    clear hc hg hx
    go_wp2_with fail
    rw [show (24 : Int) + (N0 : Int) = ((24 + N0 : Nat) : Int) by omega]
    have hN : 24 + N0 < 26 := by omega
    generalize 24 + N0 = N at *
    go_loopw [5, 6] (fun sv iv wr => ∃ (t : ByteArray) (i : Nat), i ≤ N ∧ sv = .string t ∧ iv = .int .i64 i ∧ t.size ≤ 10 * i ∧ Hid (Cur wr w.heap.size w.heap.size) ∧ Hid (w1.grownBy wr (some w.heap.size))) (fun _ iv _ => N - (intOf iv).toNat)
    case atStart => exact ⟨⟨#[]⟩, 0, Nat.zero_le _, rfl, rfl, Nat.le_refl _, HC.out, HG.out⟩
    case round =>
      clear HC HG
      obtain ⟨t, i, hi, rfl, rfl, ht, HC, HG⟩ := hrel
      by_cases hlt : i < N
      · rcases (show 0 < i ∨ i = 0 by omega) with h0 | h0
        · have d0 : decide ((0 : Int) < (i : Int)) = true := decide_eq_true (by omega)
          go_wp2_with fail
          refine (s_Below _ _ _ _ HC.out (by omega) (by omega)).mono ?_
          rintro e wa ⟨y, hy, rfl, hc, hg⟩
          have HCa := hide hc
          have HGa := hide (grown_trans HG.out hg)
          have hy0 := hy.1
          have hy1 : y < 2 := by have := hy.2; omega
          clear hc hg hy HC HG
          go_wp2_with fail
          refine (s_Below _ _ _ _ HCa.out (by omega) (by omega)).mono ?_
          rintro e wb ⟨z, hz, rfl, hc, hg⟩
          have HCb := hide hc
          have HGb := hide (grown_trans HGa.out hg)
          have hz0 := hz.1
          have hz1 : z < 3 := by have := hz.2; omega
          clear hc hg hz HCa HGa
          have hq : 0 ≤ y * z ∧ y * z ≤ 2 := by
            obtain rfl | rfl : y = 0 ∨ y = 1 := by omega
            · omega
            · omega
          go_wp2_with fail
          refine (s_Long_le 3 _ 32 _ (by (try unfold wrap64); omega) (by (try unfold wrap64); omega) (by omega)).mono ?_
          rintro e wc ⟨u, hu, rfl, hb⟩
          have HC := hide (HCb.out.below hb)
          have HG := hide (grown_below HGb.out (hb.mono HGb.out.size))
          clear hb HCb HGb hq
          have hadd := fun w => run_string_add_sum (P := Tryd.prog) (w := w) t u (by omega)
          go_wp2_with fail
          clear hadd
          have ht2 : (t ++ u).size ≤ 10 * i + 3 := by rw [ByteArray.size_append]; omega
          clear hu ht
          generalize t ++ u = t2 at *
          go_loopw [5, 7] (fun sv kv wr => ∃ (q : ByteArray) (k : Nat), k ≤ 5 ∧ sv = .string q ∧ kv = .int .i64 k ∧ q.size ≤ 10 * i + 3 + k ∧ Hid (Cur wr w.heap.size w.heap.size) ∧ Hid (w1.grownBy wr (some w.heap.size))) (fun _ kv _ => 5 - (intOf kv).toNat)
          case atStart => exact ⟨t2, 0, by omega, rfl, rfl, by omega, HC.out, HG.out⟩
          case round =>
            clear ht2 HC HG
            obtain ⟨q, k, hk, rfl, rfl, hq, HC, HG⟩ := hrel
            go_wp2_with fail
            refine (s_Below _ _ _ _ HC.out (by omega) (by omega)).mono ?_
            rintro e wa ⟨y, hy, rfl, hc, hg⟩
            have HCa := hide hc
            have HGa := hide (grown_trans HG.out hg)
            have hy0 := hy.1
            have hy1 : y < 5 := by have := hy.2; omega
            clear hc hg hy HC HG
            by_cases hky : (k : Int) ≤ y
            · go_wp2_with fail
              refine (s_Below _ _ _ _ HCa.out (by omega) (by omega)).mono ?_
              rintro e wb ⟨z, hz, rfl, hc, hg⟩
              have HCb := hide hc
              have HGb := hide (grown_trans HGa.out hg)
              have hz0 := hz.1
              have hz1 : z < 94 := by have := hz.2; omega
              clear hc hg hz HCa HGa
              obtain ⟨ch, hch⟩ : ∃ ch : UInt8, (ch.toNat : Int) = 33 + z := ⟨UInt8.ofNat (33 + z).toNat, by rw [UInt8.toNat_ofNat']; omega⟩
              have hcv := one_textE wb ch (33 + z) hch
              have hs1 : (str [ch]).size = 1 := rfl
              have hadd := fun w => run_string_add_sum (P := Tryd.prog) (w := w) q (str [ch]) (by omega)
              have hq2 : (q ++ str [ch]).size ≤ 10 * i + 3 + (k + 1) := by rw [ByteArray.size_append]; omega
              go_wp2_with fail
              clear hcv hadd
              go_roundw
              case rel => exact ⟨q ++ str [ch], k + 1, by omega, rfl, by go_num, hq2, HCb.out.below ((Below.refl _ _).alloc (Nat.le_refl _) _), grown_below HGb.out (((Below.refl wb.heap.size wb).alloc (Nat.le_refl _) _).mono HGb.out.size)⟩
              case measure => simp [intOf]; omega
            · go_wp2_with fail
              go_roundw
              case rel => exact ⟨q, i + 1, by omega, rfl, by go_num, by omega, HCa.out, HGa.out⟩
              case measure => simp [intOf]; omega
        · subst h0
          go_wp2_with fail
          refine (s_Once _ _ _ _ HC.out (by omega) (by omega)).mono ?_
          rintro e wo ⟨o, rfl, hc, hg⟩
          replace HC := hide hc
          replace HG := hide (grown_trans HG.out hg)
          clear hc hg
          cases o
          · go_wp2_with fail
            have ht2 : t.size ≤ 10 * 0 + 3 := by omega
            clear ht
            generalize t = t2 at *
            go_loopw [5, 7] (fun sv kv wr => ∃ (q : ByteArray) (k : Nat), k ≤ 5 ∧ sv = .string q ∧ kv = .int .i64 k ∧ q.size ≤ 10 * 0 + 3 + k ∧ Hid (Cur wr w.heap.size w.heap.size) ∧ Hid (w1.grownBy wr (some w.heap.size))) (fun _ kv _ => 5 - (intOf kv).toNat)
            case atStart => exact ⟨t2, 0, by omega, rfl, rfl, by omega, HC.out, HG.out⟩
            case round =>
              clear ht2 HC HG
              obtain ⟨q, k, hk, rfl, rfl, hq, HC, HG⟩ := hrel
              go_wp2_with fail
              refine (s_Below _ _ _ _ HC.out (by omega) (by omega)).mono ?_
              rintro e wa ⟨y, hy, rfl, hc, hg⟩
              have HCa := hide hc
              have HGa := hide (grown_trans HG.out hg)
              have hy0 := hy.1
              have hy1 : y < 5 := by have := hy.2; omega
              clear hc hg hy HC HG
              by_cases hky : (k : Int) ≤ y
              · go_wp2_with fail
                refine (s_Below _ _ _ _ HCa.out (by omega) (by omega)).mono ?_
                rintro e wb ⟨z, hz, rfl, hc, hg⟩
                have HCb := hide hc
                have HGb := hide (grown_trans HGa.out hg)
                have hz0 := hz.1
                have hz1 : z < 94 := by have := hz.2; omega
                clear hc hg hz HCa HGa
                obtain ⟨ch, hch⟩ : ∃ ch : UInt8, (ch.toNat : Int) = 33 + z := ⟨UInt8.ofNat (33 + z).toNat, by rw [UInt8.toNat_ofNat']; omega⟩
                have hcv := one_textE wb ch (33 + z) hch
                have hs1 : (str [ch]).size = 1 := rfl
                have hadd := fun w => run_string_add_sum (P := Tryd.prog) (w := w) q (str [ch]) (by omega)
                have hq2 : (q ++ str [ch]).size ≤ 10 * 0 + 3 + (k + 1) := by rw [ByteArray.size_append]; omega
                go_wp2_with fail
                clear hcv hadd
                go_roundw
                case rel => exact ⟨q ++ str [ch], k + 1, by omega, rfl, by go_num, hq2, HCb.out.below ((Below.refl _ _).alloc (Nat.le_refl _) _), grown_below HGb.out (((Below.refl wb.heap.size wb).alloc (Nat.le_refl _) _).mono HGb.out.size)⟩
                case measure => simp [intOf]; omega
              · go_wp2_with fail
                go_roundw
                case rel => exact ⟨q, 0 + 1, by omega, rfl, by go_num, by omega, HCa.out, HGa.out⟩
                case measure => simp [intOf]; omega
          · go_wp2_with fail
            refine (s_Below _ _ _ _ HC.out (by omega) (by omega)).mono ?_
            rintro e wa ⟨y, hy, rfl, hc, hg⟩
            have HCa := hide hc
            have HGa := hide (grown_trans HG.out hg)
            have hy0 := hy.1
            have hy1 : y < 2 := by have := hy.2; omega
            clear hc hg hy HC HG
            go_wp2_with fail
            refine (s_Below _ _ _ _ HCa.out (by omega) (by omega)).mono ?_
            rintro e wb ⟨z, hz, rfl, hc, hg⟩
            have HCb := hide hc
            have HGb := hide (grown_trans HGa.out hg)
            have hz0 := hz.1
            have hz1 : z < 3 := by have := hz.2; omega
            clear hc hg hz HCa HGa
            have hq : 0 ≤ y * z ∧ y * z ≤ 2 := by
              obtain rfl | rfl : y = 0 ∨ y = 1 := by omega
              · omega
              · omega
            go_wp2_with fail
            refine (s_Long_le 3 _ 32 _ (by (try unfold wrap64); omega) (by (try unfold wrap64); omega) (by omega)).mono ?_
            rintro e wc ⟨u, hu, rfl, hb⟩
            have HC := hide (HCb.out.below hb)
            have HG := hide (grown_below HGb.out (hb.mono HGb.out.size))
            clear hb HCb HGb hq
            have hadd := fun w => run_string_add_sum (P := Tryd.prog) (w := w) t u (by omega)
            go_wp2_with fail
            clear hadd
            have ht2 : (t ++ u).size ≤ 10 * 0 + 3 := by rw [ByteArray.size_append]; omega
            clear hu ht
            generalize t ++ u = t2 at *
            go_loopw [5, 7] (fun sv kv wr => ∃ (q : ByteArray) (k : Nat), k ≤ 5 ∧ sv = .string q ∧ kv = .int .i64 k ∧ q.size ≤ 10 * 0 + 3 + k ∧ Hid (Cur wr w.heap.size w.heap.size) ∧ Hid (w1.grownBy wr (some w.heap.size))) (fun _ kv _ => 5 - (intOf kv).toNat)
            case atStart => exact ⟨t2, 0, by omega, rfl, rfl, by omega, HC.out, HG.out⟩
            case round =>
              clear ht2 HC HG
              obtain ⟨q, k, hk, rfl, rfl, hq, HC, HG⟩ := hrel
              go_wp2_with fail
              refine (s_Below _ _ _ _ HC.out (by omega) (by omega)).mono ?_
              rintro e wa ⟨y, hy, rfl, hc, hg⟩
              have HCa := hide hc
              have HGa := hide (grown_trans HG.out hg)
              have hy0 := hy.1
              have hy1 : y < 5 := by have := hy.2; omega
              clear hc hg hy HC HG
              by_cases hky : (k : Int) ≤ y
              · go_wp2_with fail
                refine (s_Below _ _ _ _ HCa.out (by omega) (by omega)).mono ?_
                rintro e wb ⟨z, hz, rfl, hc, hg⟩
                have HCb := hide hc
                have HGb := hide (grown_trans HGa.out hg)
                have hz0 := hz.1
                have hz1 : z < 94 := by have := hz.2; omega
                clear hc hg hz HCa HGa
                obtain ⟨ch, hch⟩ : ∃ ch : UInt8, (ch.toNat : Int) = 33 + z := ⟨UInt8.ofNat (33 + z).toNat, by rw [UInt8.toNat_ofNat']; omega⟩
                have hcv := one_textE wb ch (33 + z) hch
                have hs1 : (str [ch]).size = 1 := rfl
                have hadd := fun w => run_string_add_sum (P := Tryd.prog) (w := w) q (str [ch]) (by omega)
                have hq2 : (q ++ str [ch]).size ≤ 10 * 0 + 3 + (k + 1) := by rw [ByteArray.size_append]; omega
                go_wp2_with fail
                clear hcv hadd
                go_roundw
                case rel => exact ⟨q ++ str [ch], k + 1, by omega, rfl, by go_num, hq2, HCb.out.below ((Below.refl _ _).alloc (Nat.le_refl _) _), grown_below HGb.out (((Below.refl wb.heap.size wb).alloc (Nat.le_refl _) _).mono HGb.out.size)⟩
                case measure => simp [intOf]; omega
              · go_wp2_with fail
                go_roundw
                case rel => exact ⟨q, 0 + 1, by omega, rfl, by go_num, by omega, HCa.out, HGa.out⟩
                case measure => simp [intOf]; omega
      · go_wp2_with fail
        refine (s_Below _ _ _ _ HC.out (by omega) (by omega)).mono ?_
        rintro e wa ⟨x, hx, rfl, hc, hg⟩
        have hts : t.size ≤ 1000 := by omega
        have HCa := hide hc
        have HGa := hide (grown_trans HG.out hg)
        have hx0 := hx.1
        clear hc hg hx HC HG ht hi
        by_cases e0 : x = 0
        · subst e0
          go_wp2_with fail
          have hA : Below wa.heap.size wa (wa.alloc (.cells #[.string ⟨#[32]⟩, .string ⟨#[32, 32]⟩, .string ⟨#[9]⟩, .string ⟨#[10]⟩, .string ⟨#[127]⟩, .string ⟨#[233]⟩] 9)) := (Below.refl _ _).alloc (Nat.le_refl _) _
          have hlt := HCa.out.lt
          refine (s_Pick w.heap.size w.heap.size wa.heap.size 6 2 _ (HCa.out.below hA) (by omega) (by simp) (by omega) (by omega) ?_).mono ?_
          · intro j hj
            rw [World.cell?_alloc_mark wa _ _ (0, 0) j]
            obtain rfl | rfl | rfl | rfl | rfl | rfl : j = 0 ∨ j = 1 ∨ j = 2 ∨ j = 3 ∨ j = 4 ∨ j = 5 := by omega
            all_goals exact ⟨_, by decide, rfl⟩
          · rintro e wb ⟨⟨z, hz, rfl⟩, hc, hg⟩
            have HGb := hide (grown_trans HGa.out (grown_alloc hg))
            have hadd := fun w => run_string_add_sum (P := Tryd.prog) (w := w) t z (by omega)
            have hsz : (t ++ z).size ≤ 100000 := by rw [ByteArray.size_append]; omega
            clear hc hg hA HGa HCa
            go_wp2_with fail
            go_ret
            exact ⟨_, hsz, rfl, HB.out.trans (below_of_grown HGb.out (Nat.le_refl _) hz1)⟩
        · have d0 : (x == 0) = false := beq_eq_false_iff_ne.2 e0
          by_cases e1 : x = 1
          · subst e1
            by_cases h6 : t.size < 600
            · have h6' : (t.size : Int) < 600 := by omega
              go_wp2_with fail
              refine (s_Below _ _ _ _ HCa.out (by omega) (by omega)).mono ?_
              rintro e wb ⟨y, hy, rfl, hc, hg⟩
              have HGb := hide (grown_trans HGa.out hg)
              have hy0 := hy.1
              have hy1 : y < 2 := by have := hy.2; omega
              clear hc hg hy HCa HGa
              go_wp2_with fail
              refine (s_Long_le 1000 _ 32 _ (by omega) (by omega) (by omega)).mono ?_
              rintro e wc ⟨u, hu, rfl, hb⟩
              have HGc := hide (grown_below HGb.out (hb.mono HGb.out.size))
              clear hb HGb
              have hadd := fun w => run_string_add_sum (P := Tryd.prog) (w := w) t u (by omega)
              have hsz : (t ++ u).size ≤ 100000 := by rw [ByteArray.size_append]; omega
              go_wp2_with fail
              go_ret
              exact ⟨_, hsz, rfl, HB.out.trans (below_of_grown HGc.out (Nat.le_refl _) hz1)⟩
            · have h6' : ¬ (t.size : Int) < 600 := by omega
              go_wp2_with fail
              go_ret
              exact ⟨_, by omega, rfl, HB.out.trans (below_of_grown HGa.out (Nat.le_refl _) hz1)⟩
          · have d1 : (x == 1) = false := beq_eq_false_iff_ne.2 e1
            go_wp2_with fail
            go_ret
            exact ⟨_, by omega, rfl, HB.out.trans (below_of_grown HGa.out (Nat.le_refl _) hz1)⟩
end Go.Proofs.YtaadnknpfbbjjaaDoor
