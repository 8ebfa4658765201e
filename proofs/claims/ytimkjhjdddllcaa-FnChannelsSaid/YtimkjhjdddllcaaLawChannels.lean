/- For every code of at most 2^20 bytes (longer ones the law lets pass), what comes through a channel is what was sent, or nothing: the law FnChannels returns true. -/
import Derived.Test.YtimkjhjdddllcaaRowBase
import Derived.Test.YtimkjhjdddllcaaDrawB
import Derived.Test.YtimkjhjdddllcaaLinkF
import Derived.Test.YtimkjhjdddllcaaChnB
import Derived.Test.YtimkjhjdddllcaaStr
import Derived.Deep.RegionHeld3
import Derived.Deep.DrawnRows
namespace Go.Proofs.Ytimkjhjdddllcaa.fnChannels
open Go.ChangeShapes Go.WideShapes Go.ChangeAt Go.RowKit Sat
open Go.ChangeMaps (open_string shut_string)
set_option linter.unusedVariables false
attribute [local go_sem ↓] Go.wp_at_zero Go.wp_at_succ

def body (t : List UInt8) : List UInt8 := scramble (spread (encodeBlock t))
theorem body_length (t : List UInt8) : (body t).length = 2 * t.length := by unfold body; rw [scramble_length, spread_length, encodeBlock_length]
theorem make_parts (t : List UInt8) (h1 : 1 ≤ t.length) (h2 : t.length ≤ 200) : (str (makeL t)).size = 4 + 2 * t.length ∧ (str (makeL t)).extract 4 (str (makeL t)).size = str (body t) := by
  have e : makeL t = syncL ++ body t := makeL_in h1 h2
  have hb := body_length t
  have h4 : (str (makeL t)).size = 4 + 2 * t.length := by rw [str_size, makeL_length h1 h2]
  refine ⟨h4, ?_⟩
  rw [h4, ← str_of ((str (makeL t)).extract 4 (4 + 2 * t.length)), ext_data, str_data, e]
  congr 1
  rw [List.drop_left' (by rfl)]
  exact List.take_of_length_le (by omega)
/-- what a text that came through is read as -/
def Came (t : List UInt8) (b l : Int) (T : ByteArray) : Prop :=
  (T.toList.isEmpty = true ∧ l ≠ 0) ∨
  (T.toList.isEmpty = false ∧ 4 ≤ T.size ∧ T.size ≤ 404 ∧ l ≠ 100 ∧ ∃ n : Nat, readT (T.extract 4 T.size) = str t ∧ readN (T.extract 4 T.size) = (n : Int) ∧ readOk (T.extract 4 T.size) = true ∧ n ≤ 400 ∧ (1 ≤ n → b ≠ 0) ∧ (n = 0 → b ≠ 100))
theorem plain_read (t : List UInt8) (h1 : 1 ≤ t.length) (h2 : t.length ≤ 200) : readT (str (body t)) = str t ∧ readN (str (body t)) = 0 ∧ readOk (str (body t)) = true := by
  have hz : (str (body t)).size = 2 * t.length := by rw [str_size, body_length]
  obtain ⟨d1, d2, d3⟩ := read_plain t h2
  refine ⟨?_, ?_, ?_⟩
  · unfold readT; rw [if_pos (by omega)]; unfold readU; rw [str_data]; unfold rdU body; rw [d2]
  · unfold readN; rw [if_pos (by omega)]; unfold readU; rw [str_data]; unfold rdU body; rw [d3]; rfl
  · unfold readOk; rw [decide_eq_true (by omega)]; unfold readU; rw [str_data]; unfold rdU body; rw [d1]; rfl
theorem hurt_read (t : List UInt8) (seed : Int) (h1 : 1 ≤ t.length) (h2 : t.length ≤ 200) (s0 : 0 ≤ seed) (s1 : seed ≤ 65535) :
    ∃ n : Nat, readT (burstT seed (str (body t))) = str t ∧ readN (burstT seed (str (body t))) = (n : Int) ∧ readOk (burstT seed (str (body t))) = true ∧ 1 ≤ n ∧ n ≤ 2 * t.length := by
  have hb := body_length t
  have hz : (str (body t)).size = 2 * t.length := by rw [str_size, hb]
  have hin : burstIn seed (str (body t)).size = true := by rw [hz]; exact decide_eq_true (by omega)
  obtain ⟨_, _, a1, _, m1, _⟩ := burst_nums hin
  rw [hz] at a1 m1
  obtain ⟨d1, d2, d3, d4⟩ := read_burst t (burstA seed (2 * t.length)) (burstM seed (2 * t.length)) h1 h2 m1 (by omega)
  have e : burstT seed (str (body t)) = str (burst (body t) (burstA seed (2 * t.length)) (burstM seed (2 * t.length))) := by
    unfold burstT; rw [if_pos hin, hz]; rfl
  have hs : (burstT seed (str (body t))).size = 2 * t.length := by rw [burstT_size, hz]
  refine ⟨decodeSum (readU (burstT seed (str (body t)))), ?_, ?_, ?_, ?_, ?_⟩
  · unfold readT; rw [if_pos (by omega)]; unfold readU; rw [e, str_data]; unfold rdU body; rw [d2]
  · unfold readN; rw [if_pos (by omega)]
  · unfold readOk; rw [decide_eq_true (by omega)]; unfold readU; rw [e, str_data]; unfold rdU body; rw [d1]; rfl
  · unfold readU; rw [e, str_data]; exact d3
  · unfold readU; rw [e, str_data]; exact d4
theorem randS_range (s n : Int) : 0 ≤ randS s n ∧ randS s n ≤ 65535 := by
  unfold randS
  split
  · omega
  · exact nextR_range _
theorem burstS_in (seed : Int) (s : ByteArray) (s0 : 0 ≤ seed) (s1 : seed ≤ 65535) : 0 ≤ burstS seed s ∧ burstS seed s ≤ 65535 := by
  unfold burstS
  split
  · exact randS_range _ _
  · omega
theorem cut_join (x y : ByteArray) (h : x.size = 4) : (x ++ y).extract 4 (x ++ y).size = y ∧ (x ++ y).size = 4 + y.size := by
  have hz : (x ++ y).size = 4 + y.size := by rw [ByteArray.size_append, h]
  refine ⟨?_, hz⟩
  rw [← str_of ((x ++ y).extract 4 (x ++ y).size), ext_data, ← str_of y, ← str_of x, show str x.data.toList ++ str y.data.toList = str (x.data.toList ++ y.data.toList) from by unfold str; exact ByteArray.mk_append_mk _ _, str_data]
  have hl : x.data.toList.length = 4 := by have : x.data.toList.length = x.size := by simp
                                           omega
  rw [List.drop_left' hl, str_size]
  congr 1
  exact List.take_of_length_le (by simp; omega)
theorem send_facts (t : List UInt8) (a b l : Int) (h1 : 1 ≤ t.length) (h2 : t.length ≤ 200) (a0 : 0 ≤ a) (a1 : a ≤ 65535) (b0 : 0 ≤ b) (b1 : b ≤ 100) (l0 : 0 ≤ l) (l1 : l ≤ 100) :
    0 ≤ sbSeed a b l (str (makeL t)) ∧ sbSeed a b l (str (makeL t)) ≤ 65535 ∧ Came t b l (sbText a b l (str (makeL t))) := by
  obtain ⟨z4, x4⟩ := make_parts t h1 h2
  have hin : sbIn a b l (str (makeL t)) = true := by
    unfold sbIn chOk; rw [inR_true a0 a1, inR_true b0 b1, inR_true l0 l1, z4, decide_eq_true (by omega)]; rfl
  have r1 := nextR_range a
  have r2 := nextR_range (nextR a)
  have q1 := sbX_range a
  have q2 := sbX_range (nextR a)
  unfold sbSeed sbText
  rw [if_pos hin, if_pos hin]
  by_cases g1 : sbX a < l
  · rw [if_pos g1, if_pos g1]
    exact ⟨r1.1, r1.2, .inl ⟨empty_yes (str_size []), by omega⟩⟩
  · rw [if_neg g1, if_neg g1]
    by_cases g2 : sbX (nextR a) < b
    · rw [if_pos g2, if_pos g2, x4]
      have hs := burstS_in (nextR (nextR a)) (str (body t)) r2.1 r2.2
      refine ⟨hs.1, hs.2, .inr ?_⟩
      obtain ⟨n, n1, n2, n3, n4, n5⟩ := hurt_read t (nextR (nextR a)) h1 h2 r2.1 r2.2
      have hc := cut_join ((str (makeL t)).extract 0 4) (burstT (nextR (nextR a)) (str (body t))) (by rw [ByteArray.size_extract]; omega)
      have hbz : (burstT (nextR (nextR a)) (str (body t))).size = 2 * t.length := by rw [burstT_size, str_size, body_length]
      rw [hc.1]
      refine ⟨empty_no (by rw [hc.2]; omega), by rw [hc.2]; omega, by rw [hc.2]; omega, by omega, n, n1, n2, n3, by omega, fun _ => by omega, fun h => by omega⟩
    · rw [if_neg g2, if_neg g2]
      refine ⟨r2.1, r2.2, .inr ?_⟩
      obtain ⟨p1, p2, p3⟩ := plain_read t h1 h2
      rw [x4]
      refine ⟨empty_no (by rw [z4]; omega), by rw [z4]; omega, by rw [z4]; omega, by omega, 0, p1, p2, p3, by omega, fun h => by omega, fun _ => by omega⟩
theorem read_is (s : ByteArray) (t : ByteArray) (n : Int) (w : World) (hs : s.size ≤ 1000) (h : readT s = t ∧ readN s = n ∧ readOk s = true) :
    Calls Try.prog 14 #[.string s] w fun e w' => e = .returned (.tuple #[.string t, .int .i64 n, .bool true]) ∧ Below w.heap.size w w' := by
  have := i_ReadBlock s w (by omega)
  rw [h.1, h.2.1, h.2.2] at this
  exact this
theorem make_from (W0 : World) (s : ByteArray) (t : ByteArray) (w : World) (hs : s.size ≤ 1000) (h : makeB s = t) (hw : Below W0.heap.size W0 w) :
    Calls Try.prog 11 #[.string s] w fun e w' => e = .returned (.string t) ∧ Below W0.heap.size W0 w' ∧ Below w.heap.size w w' := by
  subst h; exact (i_MakeBlock s w (by omega)).mono fun _ _ ⟨a, b⟩ => ⟨a, below_trans hw b, b⟩
theorem below_alloc1 {W0 w : World} {o : Obj} (h : Below W0.heap.size W0 w) : Below W0.heap.size W0 (w.alloc o) := h.alloc h.size o
theorem send_from (W0 : World) (a b l a' : Int) (s T : ByteArray) (w : World) (hs : s.size ≤ 1000) (h1 : sbSeed a b l s = a') (h2 : sbText a b l s = T) (hw : Below W0.heap.size W0 w) :
    Calls Try.prog 22 #[.agg #[.int .i64 a, .int .i64 b, .int .i64 l], .string s] w fun e w' => e = .returned (.tuple #[.agg #[.int .i64 a', .int .i64 b, .int .i64 l], .string T]) ∧ Below W0.heap.size W0 w' ∧ Below w.heap.size w w' := by
  subst h1; subst h2; exact (i_SendBlock a b l s w (by omega)).mono fun _ _ ⟨a, b⟩ => ⟨a, below_trans hw b, b⟩
theorem isBytes_mono {w : World} {B B' : Nat} {a : Option Addr} {len : Nat} {l : List UInt8} (h : IsBytes w B a len l) (hb : B ≤ B') : IsBytes w B' a len l :=
  ⟨h.1, h.2.1, fun hp => by
    obtain ⟨b, off, e, hlt, hc⟩ := h.2.2 hp
    exact ⟨b, off, e, by omega, hc⟩⟩
/-- the channel lies in block g -/
def ChanAt (w : World) (g : Nat) (a b l : Int) : Prop := g < w.heap.size ∧ w.cell? ⟨g, 0, none⟩ = some (.int .i64 a) ∧ w.cell? ⟨g, 1, none⟩ = some (.int .i64 b) ∧ w.cell? ⟨g, 2, none⟩ = some (.int .i64 l) ∧ w.frozen? ⟨g, 0, none⟩ = false ∧ w.frozen? ⟨g, 1, none⟩ = false ∧ w.frozen? ⟨g, 2, none⟩ = false
theorem ChanAt.below {w w' : World} {g : Nat} {a b l : Int} (h : ChanAt w g a b l) (hb : Below w.heap.size w w') : ChanAt w' g a b l :=
  ⟨Nat.lt_of_lt_of_le h.1 hb.size, (hb.cell (p := ⟨g, 0, none⟩) h.1).trans h.2.1, (hb.cell (p := ⟨g, 1, none⟩) h.1).trans h.2.2.1, (hb.cell (p := ⟨g, 2, none⟩) h.1).trans h.2.2.2.1, (hb.frozen (p := ⟨g, 0, none⟩) h.1).trans h.2.2.2.2.1, (hb.frozen (p := ⟨g, 1, none⟩) h.1).trans h.2.2.2.2.2.1, (hb.frozen (p := ⟨g, 2, none⟩) h.1).trans h.2.2.2.2.2.2⟩
theorem new3 (w : World) : ChanAt (w.alloc (.cells #[.int .i64 0, .int .i64 0, .int .i64 0] 38)) w.heap.size 0 0 0 := by
  refine ⟨by simp, World.cell?_alloc_mark w _ _ (0, 0) 0, World.cell?_alloc_mark w _ _ (0, 0) 1, World.cell?_alloc_mark w _ _ (0, 0) 2, ?_, ?_, ?_⟩ <;> simp [go_sem]
theorem newC (w : World) (a b l : Int) : ChanAt (w.alloc (.cells #[.int .i64 a, .int .i64 b, .int .i64 l] 38)) w.heap.size a b l := by
  refine ⟨by simp, World.cell?_alloc_mark w _ _ (0, 0) 0, World.cell?_alloc_mark w _ _ (0, 0) 1, World.cell?_alloc_mark w _ _ (0, 0) 2, ?_, ?_, ?_⟩ <;> simp [go_sem]
theorem set3 {w : World} {g : Nat} {p q r a b l : Int} (h : ChanAt w g p q r) : ChanAt (((w.setCell ⟨g, 0, none⟩ (.int .i64 a)).setCell ⟨g, 1, none⟩ (.int .i64 b)).setCell ⟨g, 2, none⟩ (.int .i64 l)) g a b l := by
  obtain ⟨h0, h1, h2, h3, h4, h5, h6⟩ := h
  refine ⟨by simp [World.setCell]; exact h0, ?_, ?_, ?_, ?_, ?_, ?_⟩ <;> simp [go_sem, h1, h2, h3, h4, h5, h6]
theorem cells3 {w w' : World} {g : Nat} {a b l : Int} (h : ChanAt w g a b l) (hb : Below w.heap.size w w') : w'.cell? ⟨g, 0, none⟩ = some (.int .i64 a) ∧ w'.cell? ⟨g, 1, none⟩ = some (.int .i64 b) ∧ w'.cell? ⟨g, 2, none⟩ = some (.int .i64 l) :=
  ⟨(h.below hb).2.1, (h.below hb).2.2.1, (h.below hb).2.2.2.1⟩
set_option maxHeartbeats 3200000 in
theorem walk (a : Option Addr) (len cap : Nat) (l : List UInt8) (w : World) (h : IsBytes w w.heap.size a len l) :
    Calls Try.prog 8 #[.slice a len cap] w fun e w' => e = .returned (.bool true) ∧ Below w.heap.size w w' := by
  by_cases hbig : 1048576 < len
  · clear h
    go_enter Try.func8, Try.ntmps8
    go_wp2_with (go_at_call 9; refine (l_big_yes _ _ _ _ hbig).mono ?_; rintro e w1 ⟨rfl, rfl⟩)
    go_ret
    exact ⟨rfl, Below.refl _ _⟩
  · have hlen : len ≤ 1048576 := by omega
    clear hbig
    have H := hide h
    clear h
    have g0 := atI_lt l 0
    have g1 := atI_lt l 1
    have g2 := atI_lt l 2
    have g3 := atI_lt l 3
    go_enter Try.func8, Try.ntmps8
    go_wp2_with fail
    refine (l_big_no _ _ _ _ hlen).mono ?_
    rintro e w1 ⟨rfl, rfl⟩
    go_wp2_with fail
    refine (l_at _ _ _ l _ _ _ H.out hlen (by omega) (by omega)).mono ?_
    rintro e w2 ⟨rfl, rfl⟩
    go_wp2_with fail
    refine (l_at _ _ _ l _ _ _ H.out hlen (by omega) (by omega)).mono ?_
    rintro e w2 ⟨rfl, rfl⟩
    go_wp2_with fail
    refine (l_at _ _ _ l _ _ _ H.out hlen (by omega) (by omega)).mono ?_
    rintro e w2 ⟨rfl, rfl⟩
    go_wp2_with fail
    refine (l_at _ _ _ l _ _ _ H.out hlen (by omega) (by omega)).mono ?_
    rintro e w2 ⟨rfl, rfl⟩
    go_wp2_with fail
    obtain ⟨c0, hc0⟩ : ∃ x : Int, x = (atI l 0 : Int) * 256 + (atI l 1 : Int) := ⟨_, rfl⟩
    obtain ⟨cb, hcb⟩ : ∃ x : Int, x = (atI l 2 : Int) % 101 := ⟨_, rfl⟩
    obtain ⟨cl, hcl⟩ : ∃ x : Int, x = (atI l 3 : Int) % 101 := ⟨_, rfl⟩
    rw [← hc0, ← hcb, ← hcl]
    have c00 : 0 ≤ c0 := by omega
    have c01 : c0 ≤ 65535 := by omega
    have cb0 : 0 ≤ cb := by omega
    have cb1 : cb ≤ 100 := by omega
    have cl0 : 0 ≤ cl := by omega
    have cl1 : cl ≤ 100 := by omega
    clear hc0 hcb hcl g0 g1 g2 g3
    have hA : Below w.heap.size w (w.alloc (.cells #[.int .i64 c0, .int .i64 cb, .int .i64 cl] 38)) := (Below.refl _ _).alloc (Nat.le_refl _) _
    have hch : ChanAt (w.alloc (.cells #[.int .i64 c0, .int .i64 cb, .int .i64 cl] 38)) w.heap.size c0 cb cl := by
      refine ⟨by simp, World.cell?_alloc_mark w _ _ (0, 0) 0, World.cell?_alloc_mark w _ _ (0, 0) 1, World.cell?_alloc_mark w _ _ (0, 0) 2, ?_, ?_, ?_⟩ <;> simp [go_sem]
    have HA := hide hA
    have HCH := hide hch
    clear hA hch
    refine (s_DrawBytes _ _ _ l _ (isBytes_mono (H.out.below HA.out) HA.out.size) hlen).mono ?_
    rintro e w1 ⟨t, ht, rfl, hb⟩
    have HB := hide (HA.out.trans (hb.mono HA.out.size))
    have HC := hide (HCH.out.below hb)
    clear hb HA HCH H
    have htz := str_size t
    have hadd := fun w => run_string_add_sum (P := Try.prog) (w := w) (str [115]) (str t) (by rw [str_size [115]]; simp; omega)
    rw [show str [115] ++ str t = str (115 :: t) from ByteArray.mk_append_mk _ _] at hadd
    have hSz : (str (115 :: t)).size = t.length + 1 := by rw [str_size]; rfl
    have SF := hide (fun (x : Int) (x0 : 0 ≤ x) (x1 : x ≤ 65535) => send_facts (115 :: t) x cb cl (by simp) (by simp; omega) x0 x1 cb0 cb1 cl0 cl1)
    have MK := hide (show makeB (str (115 :: t)) = str (makeL (115 :: t)) from rfl)
    have MZ := hide (show (str (makeL (115 :: t))).size ≤ 1000 by rw [str_size]; have := makeL_le (115 :: t); omega)
    have hS1 : (str (115 :: t)).size ≤ 1000 := by omega
    generalize hSS : (115 :: t) = T0 at *
    clear hSS hSz
    generalize str t = s2 at *
    change ∀ w, (Op.stringOp .add ⟨#[115]⟩ s2).run Try.prog w = _ at hadd
    generalize str (makeL T0) = BK at *
    go_wp2_with fail
    clear hadd
    go_loopw [5] (fun kv wr => ∃ (k : Nat) (x : Int), k ≤ 8 ∧ kv = .int .i64 k ∧ 0 ≤ x ∧ x ≤ 65535 ∧ Hid (ChanAt wr w.heap.size x cb cl) ∧ Below w.heap.size w wr) (fun kv _ => 8 - (intOf kv).toNat)
    case atStart => exact ⟨0, c0, by omega, rfl, c00, c01, HC.out, HB.out⟩
    case round =>
      clear HC HB c00 c01
      obtain ⟨k, x, hk, rfl, x0, x1, hc, hb⟩ := hrel
      obtain ⟨hg, ca, cbb, cll, f0, f1, f2⟩ := hc.out
      by_cases hlt : k < 8
      · obtain ⟨y0, y1, hcame⟩ := SF.out x x0 x1
        obtain ⟨x', hx'⟩ : ∃ y, sbSeed x cb cl BK = y := ⟨_, rfl⟩
        obtain ⟨T, hT⟩ : ∃ y, sbText x cb cl BK = y := ⟨_, rfl⟩
        rw [hx'] at y0 y1
        rw [hT] at hcame
        have HX := hide hx'
        have HT := hide hT
        have CM := hide hcame
        clear hx' hT hcame
        have hbd : Below wr.heap.size wr wr.drew := (Below.refl _ _).drew
        have mz := MZ.out
        go_wp2_with fail
        go_region_held3 (fun w' => w'.cell? ⟨w.heap.size, 0, none⟩ = some (.int .i64 x) ∧ w'.cell? ⟨w.heap.size, 1, none⟩ = some (.int .i64 cb) ∧ w'.cell? ⟨w.heap.size, 2, none⟩ = some (.int .i64 cl)) (first | exact cells3 hc.out (by repeat (first | assumption | exact Below.refl _ _ | refine below_alloc1 ?_ | refine Below.drew ?_ | refine Below.setCell ?_ (by first | (show wr.heap.size ≤ wr.heap.size; omega) | (show wr.heap.size ≤ w2.heap.size; exact hb2.size) | (show wr.heap.size ≤ w3.heap.size; exact hb3.size)) _))) (first | (go_at_call 11; refine (make_from wr _ _ _ hS1 MK.out (by repeat (first | assumption | exact Below.refl _ _ | refine below_alloc1 ?_ | refine Below.drew ?_ | refine Below.setCell ?_ (by first | (show wr.heap.size ≤ wr.heap.size; omega) | (show wr.heap.size ≤ w2.heap.size; exact hb2.size) | (show wr.heap.size ≤ w3.heap.size; exact hb3.size)) _))).mono ?_; rintro e w2 ⟨rfl, hb2, hd2⟩; (try have hx2 : ChanAt w2 wr.heap.size 0 0 0 := (new3 wr.drew).below hd2); clear hd2) | (go_at_call 22; refine (send_from wr _ _ _ _ _ _ _ mz HX.out HT.out (by repeat (first | assumption | exact Below.refl _ _ | refine below_alloc1 ?_ | refine Below.drew ?_ | refine Below.setCell ?_ (by first | (show wr.heap.size ≤ wr.heap.size; omega) | (show wr.heap.size ≤ w2.heap.size; exact hb2.size) | (show wr.heap.size ≤ w3.heap.size; exact hb3.size)) _))).mono ?_; rintro e w3 ⟨rfl, hb3, hd3⟩; (first | (refine (fun HXA : Hid (ChanAt w3 wr.heap.size 0 0 0) => ?_) (hx2.below hd3); clear hx2; obtain ⟨xg, xa, xb, xc, fa, fb, fc⟩ := HXA.out) | (refine (fun HXB : Hid (ChanAt w3 w2.heap.size 0 0 0) => ?_) ((new3 w2).below hd3); obtain ⟨xg, xa, xb, xc, fa, fb, fc⟩ := HXB.out) | skip); clear hd3))
        all_goals
          first
            | (refine (fun cX : Hid (ChanAt (((w3.setCell ⟨wr.heap.size, 0, none⟩ (.int .i64 x')).setCell ⟨wr.heap.size, 1, none⟩ (.int .i64 cb)).setCell ⟨wr.heap.size, 2, none⟩ (.int .i64 cl)) wr.heap.size x' cb cl) => ?_) (set3 HXA.out); refine (fun bV : Hid (Below wr.heap.size wr (((w3.setCell ⟨wr.heap.size, 0, none⟩ (.int .i64 x')).setCell ⟨wr.heap.size, 1, none⟩ (.int .i64 cb)).setCell ⟨wr.heap.size, 2, none⟩ (.int .i64 cl))) => ?_) (((hb3.setCell (Nat.le_refl _) _).setCell (Nat.le_refl _) _).setCell (Nat.le_refl _) _); generalize (((w3.setCell ⟨wr.heap.size, 0, none⟩ (.int .i64 x')).setCell ⟨wr.heap.size, 1, none⟩ (.int .i64 cb)).setCell ⟨wr.heap.size, 2, none⟩ (.int .i64 cl)) = V at *; obtain ⟨gx, hgx⟩ : ∃ g, g = wr.heap.size := ⟨_, rfl⟩; rw [← hgx] at cX ⊢; clear hgx)
            | (refine (fun cX : Hid (ChanAt (((w3.setCell ⟨w2.heap.size, 0, none⟩ (.int .i64 x')).setCell ⟨w2.heap.size, 1, none⟩ (.int .i64 cb)).setCell ⟨w2.heap.size, 2, none⟩ (.int .i64 cl)) w2.heap.size x' cb cl) => ?_) (set3 HXB.out); refine (fun bV : Hid (Below wr.heap.size wr (((w3.setCell ⟨w2.heap.size, 0, none⟩ (.int .i64 x')).setCell ⟨w2.heap.size, 1, none⟩ (.int .i64 cb)).setCell ⟨w2.heap.size, 2, none⟩ (.int .i64 cl))) => ?_) (((hb3.setCell hb2.size _).setCell hb2.size _).setCell hb2.size _); generalize (((w3.setCell ⟨w2.heap.size, 0, none⟩ (.int .i64 x')).setCell ⟨w2.heap.size, 1, none⟩ (.int .i64 cb)).setCell ⟨w2.heap.size, 2, none⟩ (.int .i64 cl)) = V at *; obtain ⟨gx, hgx⟩ : ∃ g, g = w2.heap.size := ⟨_, rfl⟩; rw [← hgx] at cX ⊢; clear hgx)
            | (refine (fun cX : Hid (ChanAt (w3.alloc (.cells #[.int .i64 x', .int .i64 cb, .int .i64 cl] 38)) w3.heap.size x' cb cl) => ?_) (newC w3 x' cb cl); refine (fun bV : Hid (Below wr.heap.size wr (w3.alloc (.cells #[.int .i64 x', .int .i64 cb, .int .i64 cl] 38))) => ?_) (hb3.alloc hb3.size _); generalize (w3.alloc (.cells #[.int .i64 x', .int .i64 cb, .int .i64 cl] 38)) = V at *; obtain ⟨gx, hgx⟩ : ∃ g, g = w3.heap.size := ⟨_, rfl⟩; rw [← hgx] at cX ⊢; clear hgx)
          have cV := hide (hc.out.below bV.out)
          have BV := hide (below_trans hb bV.out)
          obtain ⟨hgV, ca', cb', cl', f0', f1', f2'⟩ := cV.out
          obtain ⟨xgV, xa', xb', xc', -, -, -⟩ := cX.out
          clear ca cbb cll f0 f1 f2 hb2 hb3 hbd bV hg hb
          rcases CM.out with ⟨te, tl⟩ | ⟨te, t4, t404, tl, n, n1, n2, n3, n4, n5, n6⟩
          · have l1' : (cl == 0) = false := beq_eq_false_iff_ne.2 tl
            clear CM tl
            go_wp2_with fail
            go_roundw
            case rel => exact ⟨k + 1, x', by omega, by go_num, y0, y1, set3 cV.out, ((BV.out.setCell (Nat.le_refl _) _).setCell (Nat.le_refl _) _).setCell (Nat.le_refl _) _⟩
            case measure => simp [intOf]; omega
          · have l1' : (cl == 100) = false := beq_eq_false_iff_ne.2 tl
            have HN := hide (And.intro n1 (And.intro n2 n3))
            have hez : (T.extract 4 T.size).size ≤ 1000 := by rw [ByteArray.size_extract]; omega
            have i4 : (4 : Int) ≤ (T.size : Int) := by omega
            clear CM tl n1 n2 n3 ca' cb' cl' f0' f1' f2' xa' xb' xc'
            go_wp2_with fail
            refine (read_is _ _ _ _ hez HN.out).mono ?_
            rintro e w4 ⟨rfl, hb4⟩
            have c4 := hide (cV.out.below hb4)
            have B4 := hide (below_trans BV.out hb4)
            obtain ⟨hg4, ca', cb', cl', f0', f1', f2'⟩ := c4.out
            obtain ⟨xg4, xa', xb', xc', -, -, -⟩ := cX.out.below hb4
            clear hb4 cV cX BV hez i4
            by_cases hn0 : n = 0
            · subst hn0
              have b1' : (cb == 100) = false := beq_eq_false_iff_ne.2 (n6 rfl)
              clear n5 n6
              go_wp2_with fail
              go_roundw
              case rel => exact ⟨k + 1, x', by omega, by go_num, y0, y1, set3 c4.out, ((B4.out.setCell (Nat.le_refl _) _).setCell (Nat.le_refl _) _).setCell (Nat.le_refl _) _⟩
              case measure => simp [intOf]; omega
            · have b1' : (cb == 0) = false := beq_eq_false_iff_ne.2 (n5 (by omega))
              have hnp : 0 < n := by omega
              have hne : ((n : Int) == 0) = false := beq_eq_false_iff_ne.2 (by omega)
              clear n5 n6
              go_wp2_with fail
              go_roundw
              case rel => exact ⟨k + 1, x', by omega, by go_num, y0, y1, set3 c4.out, ((B4.out.setCell (Nat.le_refl _) _).setCell (Nat.le_refl _) _).setCell (Nat.le_refl _) _⟩
              case measure => simp [intOf]; omega
      · obtain rfl : k = 8 := by omega
        have CK := hide (show chOk x cb cl = true by unfold chOk; rw [inR_true x0 x1, inR_true cb0 cb1, inR_true cl0 cl1]; rfl)
        go_wp2_with fail
        refine (i_ChannelOk_is _ _ _ _ _ CK.out).mono ?_
        rintro e w2 ⟨rfl, hb2⟩
        go_wp2_with fail
        go_ret
        exact ⟨rfl, below_trans hb hb2⟩
set_option maxRecDepth 100000 in
theorem lifted (os : Os) (started : os.Started) (H : Type) (enc : TypeId × Value → H) :
    ReturnsInHanded {} Try.checked os 8 .any (Rows.fnChannelsSpec.pre6 enc Try.prog Try.f8 Rows.fnChannelsRow.domain false) (Rows.fnChannelsSpec.post enc Try.prog Try.f8 false true false false) := by
  refine returnsInHanded_of_change (C := Try.checked) own started (by kernel_rfl) Try.func8
    (ChangeSpec.witness6 (enc := enc) (C := Try.checked) false ⟨#[], #[.slice none 0 0], []⟩ 8 (by kernel_rfl) (by kernel_rfl) (by kernel_rfl) (by kernel_rfl)) ?_
  intro W base args ds gs before hval0 hW hcnd _
  have hval : ∀ (j : Nat) t v, Try.f8.params[j]? = some t → args[j]? = some v → Value.okWide Try.prog W .any base t v := hval0
  have hW' := hW
  obtain ⟨p, q, hA0, hV, rfl, hfz, hnd⟩ := hW
  have hA : DataW.TrodAll enc Try.prog W 0 (fun _ => true) true Try.f8.params.toList args.toList ds p := hA0
  rw [Try.params8] at hA hval
  obtain ⟨v0, vs0, d0, ds0, p0, q0, hargs, rfl, rfl, h0, r0⟩ := trodAll_cons hA
  obtain ⟨rfl, rfl, rfl⟩ := trodAll_nil r0
  obtain rfl : args = #[v0] := by cases args; simp_all
  obtain ⟨rfl, rfl⟩ := trodVars_none hV
  have k0 := h0
  have lt0 : ∀ x ∈ p0, x.block < W.heap.size := by obtain ⟨m, hm⟩ := k0; exact DataW.trod_lt m _ _ _ hm
  obtain ⟨a0, len0, cap0, rfl⟩ := okWide_slice Try.underlying22 (hval 0 22 v0 rfl rfl)
  obtain ⟨z0, w0⟩ : ∃ l, IsBytes W W.heap.size a0 len0 l := bytes_of Try.underlying22 Try.underlying5 (by kernel_rfl) h0
  clear hA0 hval0
  refine (walk a0 len0 cap0 z0 W w0).mono fun e W' ⟨he, bel⟩ => ?_
  subst he
  exact ⟨_, rfl, _, _, _, [], _, [], hW', trodAll_mk1 (shut_bool Try.underlying4 _), (trodAll_cons_mk (Below.trod laidOut (by kernel_rfl) (of_decide_eq_true (by kernel_rfl)) k0 bel lt0) trodAll_mk0), rfl, bel.frame _, fun h => by cases h⟩
theorem closed : joinedFacts Try.prog 8 Try.f8 Rows.fnChannelsSpec Rows.fnChannelsRow = true :=
  joined_of (by as_aux_lemma => kernel_rfl) laidOut mapsRowed_ (by as_aux_lemma => kernel_rfl) (by as_aux_lemma => kernel_rfl) (by kernel_rfl) (by as_aux_lemma => kernel_rfl) (by kernel_rfl) (by as_aux_lemma => kernel_rfl)
    (by as_aux_lemma => kernel_rfl) (by as_aux_lemma => kernel_rfl) (by as_aux_lemma => kernel_rfl) (by as_aux_lemma => kernel_rfl) (by as_aux_lemma => kernel_rfl) (by as_aux_lemma => kernel_rfl) (by as_aux_lemma => kernel_rfl) (by as_aux_lemma => kernel_rfl) (by as_aux_lemma => kernel_rfl) (by as_aux_lemma => kernel_rfl)
    (by as_aux_lemma => kernel_rfl) (by as_aux_lemma => kernel_rfl) (by as_aux_lemma => kernel_rfl) (by as_aux_lemma => kernel_rfl) (by kernel_rfl) stopsHeard_ mayEnter_ (by rw [liftsFinal_]; kernel_rfl) (by rw [make_]; kernel_rfl) (by as_aux_lemma => kernel_rfl) (by kernel_rfl) (by as_aux_lemma => kernel_rfl) (by as_aux_lemma => kernel_rfl)
theorem over : Rows.fnChannelsRow.holds Try.pinned (OpenSpec.ofChange Rows.fnChannelsSpec) :=
  OpenClaim.holds_of_wide 8 Try.f8 rfl rfl rfl rfl rfl rfl rfl ⟨rfl, rfl, rfl, rfl, rfl⟩ rfl rfl rfl rfl rfl (by kernel_rfl) Try.func8 closed
    (of_decide_eq_true (by kernel_rfl)) (by unfold Func.isWrapper; first | (rw [if_pos (by decide +kernel)]; kernel_rfl) | (rw [if_neg (by decide +kernel)]; exact ⟨rfl, rfl⟩))
    (fun os started H enc _ => lifted os started H enc)
theorem proved : Rows.FnChannelsSaid := over
#print axioms proved
end Go.Proofs.Ytimkjhjdddllcaa.fnChannels
