/- What PackPacket returns, in the program and in the reference: the packer with the packet, its starts in memory of their own, or the packer as it was. -/
import Derived.Test.YtnelfadmcpacbaaPckE
import Derived.Test.YtnelfadmcpacbaaFrmB
import Derived.Test.YtnelfadmcpacbaaPckF
namespace Go.Proofs.Ytnelfadmcpacbaa
open Go.RowKit Sat
set_option linter.unusedVariables false
set_option linter.unusedSimpArgs false
attribute [local go_sem ↓] Go.wp_at_zero Go.wp_at_succ

theorem Box.setC {w : World} {g : Nat} {vs : List Value} (h : Box w g vs) (j : Nat) (hj : j < vs.length) (v : Value) : Box (w.setCell ⟨g, j, none⟩ v) g (vs.set j v) := by
  refine ⟨by simp [World.setCell]; exact h.1, fun i hi => ?_, fun i hi => ?_⟩
  · rw [List.length_set] at hi
    by_cases e : i = j
    · subst e
      have := h.2.1 i hi
      rw [List.getElem?_eq_getElem hi] at this
      rw [World.cell?_setCell_same _ _ _ this]
      simp [hi]
    · rw [World.cell?_setCell_other _ _ _ _ (by intro e'; injection e' with _ e2; exact e e2.symm), h.2.1 i hi, List.getElem?_set_ne (Ne.symm e)]
  · rw [List.length_set] at hi
    rw [World.frozen?_setCell]; exact h.2.2 i hi
theorem entry1 (w : World) (c0 : Array Value) (t0 : TypeId) : Below w.heap.size w (w.alloc (.cells c0 t0)) ∧ Box (w.alloc (.cells c0 t0)) w.heap.size c0.toList :=
  ⟨(Below.refl _ _).alloc (Nat.le_refl _) _, Box.new w c0 t0⟩
theorem entry2 (w : World) (c0 c1 : Array Value) (t0 t1 : TypeId) : Below w.heap.size w ((w.alloc (.cells c0 t0)).alloc (.cells c1 t1)) ∧ Box ((w.alloc (.cells c0 t0)).alloc (.cells c1 t1)) w.heap.size c0.toList ∧ Box ((w.alloc (.cells c0 t0)).alloc (.cells c1 t1)) (w.heap.size + 1) c1.toList :=
  ⟨((Below.refl _ _).alloc (Nat.le_refl _) _).alloc (by simp) _, (Box.new w c0 t0).alloc _, by have := Box.new (w.alloc (.cells c0 t0)) c1 t1; rwa [World.size_alloc] at this⟩
theorem entry3 (w : World) (c0 c1 c2 : Array Value) (t0 t1 t2 : TypeId) : Below w.heap.size w (((w.alloc (.cells c0 t0)).alloc (.cells c1 t1)).alloc (.cells c2 t2)) ∧ Box (((w.alloc (.cells c0 t0)).alloc (.cells c1 t1)).alloc (.cells c2 t2)) w.heap.size c0.toList ∧ Box (((w.alloc (.cells c0 t0)).alloc (.cells c1 t1)).alloc (.cells c2 t2)) (w.heap.size + 1) c1.toList ∧ Box (((w.alloc (.cells c0 t0)).alloc (.cells c1 t1)).alloc (.cells c2 t2)) (w.heap.size + 1 + 1) c2.toList := by
  obtain ⟨h, b0, b1⟩ := entry2 w c0 c1 t0 t1
  exact ⟨h.alloc (by simp; omega) _, b0.alloc _, b1.alloc _, by have := Box.new ((w.alloc (.cells c0 t0)).alloc (.cells c1 t1)) c2 t2; rwa [World.size_alloc, World.size_alloc] at this⟩
def ppR (r : ByteArray) (x y : Int) (d : ByteArray) : ByteArray := r ++ pktE x y d
def ppL (r : ByteArray) (l : List Int) : List Int := l ++ [(r.size : Int)]
def ppOk (a b : Int) (r : ByteArray) (l : List Int) (x y : Int) (d : ByteArray) : Bool := pkOk a b r l && pktOk x y d && pkOk a b (ppR r x y d) (ppL r l)
def ppP (a b : Int) (r : ByteArray) (l : List Int) (x y : Int) (d : ByteArray) : ByteArray × List Int := if ppOk a b r l x y d then (ppR r x y d, ppL r l) else (r, l)
def MadePack (a b : Int) (r : ByteArray) (l : List Int) (x y : Int) (d : ByteArray) (w : World) (e : Ending) (w' : World) : Prop := ∃ v, e = .returned (.tuple #[.agg #[.int .i64 a, .int .i64 b, .string (ppP a b r l x y d).1, v], .bool (ppOk a b r l x y d)]) ∧ w'.ownsRow w.heap.size 3 1 v (ppP a b r l x y d).2.length (Is (ppP a b r l x y d).2) ∧ Below w.heap.size w w'
theorem made_pack_no {a b : Int} {r : ByteArray} {l : List Int} {x y : Int} {d : ByteArray} {w w' : World} {v : Value} (h : ppOk a b r l x y d = false) (ho : w'.ownsRow w.heap.size 3 1 v l.length (Is l)) (hb : Below w.heap.size w w') :
    MadePack a b r l x y d w (.returned (.tuple #[.agg #[.int .i64 a, .int .i64 b, .string r, v], .bool false])) w' := by
  have e1 : ppP a b r l x y d = (r, l) := by unfold ppP; rw [h]; rfl
  exact ⟨v, by rw [e1, h], by rw [e1]; exact ho, hb⟩
theorem made_pack_yes {a b : Int} {r : ByteArray} {l : List Int} {x y : Int} {d : ByteArray} {w w' : World} {v : Value} (h : ppOk a b r l x y d = true) (ho : w'.ownsRow w.heap.size 3 1 v (ppL r l).length (Is (ppL r l))) (hb : Below w.heap.size w w') :
    MadePack a b r l x y d w (.returned (.tuple #[.agg #[.int .i64 a, .int .i64 b, .string (ppR r x y d), v], .bool true])) w' := by
  have e1 : ppP a b r l x y d = (ppR r x y d, ppL r l) := by unfold ppP; rw [h]; rfl
  exact ⟨v, by rw [e1, h], by rw [e1]; exact ho, hb⟩
theorem stTo_ge {R : Nat} {l : List Int} : ∀ n, stTo R l n = true → ∀ k, k < n → (k : Int) ≤ l.getD k 0 := by
  intro n
  induction n with
  | zero => intro _ k hk; omega
  | succ n ih =>
    intro h k hk
    rw [stTo, Bool.and_eq_true, Bool.and_eq_true] at h
    by_cases e : k = n
    · subst e
      rcases Nat.eq_zero_or_pos k with h0 | h0
      · subst h0; have := (of_inR h.2.1).1; omega
      · have h1 := ih h.1 (k - 1) (by omega)
        have h2 := h.2.2
        rw [Bool.or_eq_true, decide_eq_true_eq, decide_eq_true_eq] at h2
        rcases h2 with h2 | h2
        · omega
        · omega
    · exact ih h.1 k (by omega)
theorem pk_len {a b : Int} {r : ByteArray} {l : List Int} (h : pkOk a b r l = true) : l.length ≤ 5000 ∧ r.size ≤ 5000 := by
  unfold pkOk at h
  simp only [Bool.and_eq_true, decide_eq_true_eq] at h
  obtain ⟨⟨_, hr⟩, hs⟩ := h
  refine ⟨?_, hr⟩
  rcases Nat.eq_zero_or_pos l.length with h0 | h0
  · omega
  · have h1 := stTo_ge l.length hs (l.length - 1) (by omega)
    have h2 := (stTo_in l.length hs (l.length - 1) (by omega)).2
    omega
theorem pktE_size (x y : Int) (d : ByteArray) : (pktE x y d).size ≤ 12 + d.size := by
  have z1 := putB_size x 1
  have z2 := putB_size y 2
  have z3 := putB_size d.size 1
  unfold pktE
  split
  · rw [ByteArray.size_append, ByteArray.size_append, ByteArray.size_append]; omega
  · exact Nat.zero_le _
theorem pktOk_len {x y : Int} {d : ByteArray} (h : pktOk x y d = true) : d.size ≤ 40 := by
  unfold pktOk at h
  simp only [Bool.and_eq_true, decide_eq_true_eq] at h
  exact h.2
theorem made_pack_yesE {a b : Int} {r : ByteArray} {l : List Int} {x y : Int} {d E : ByteArray} {w w' : World} {v : Value} (hE : pktE x y d = E) (h : ppOk a b r l x y d = true) (ho : w'.ownsRow w.heap.size 3 1 v (l ++ [(r.size : Int)]).length (Is (l ++ [(r.size : Int)]))) (hb : Below w.heap.size w w') :
    MadePack a b r l x y d w (.returned (.tuple #[.agg #[.int .i64 a, .int .i64 b, .string (r ++ E), v], .bool true])) w' := by
  subst hE; exact made_pack_yes h ho hb
theorem wpList_appWH {ops : Array Oper} {rest : List Oper} {o : Oper} {a : Act} {Q : Exit → Act → World → Prop} {wr : World} {cs : Array Value} {c : Nat} (H : Nat) (hH : wr.heap.size = H) (t e : TypeId) (z : Value) (size bytes : Nat)
    (ht : Try.prog.underlying t = some (.slice e)) (hinfo : (Try.prog.info? e).map (fun i => (i.zero, i.size, i.bytes)) = some (some z, size, bytes)) (hzs : z.cells.size = size) (hsz : 0 < size) (hby : bytes ≤ 1000)
    (hgd : o.guard = none) (s x : Operand) (ho : o.op = .call { callee := .builtin .append, args := #[s, x], argTypes := #[t, t] })
    (B : Nat) (v : Value) (n m : Nat) (xs news : List Value) (hs : a.eval s = v) (hown : wr.ownsRow B e size v n xs) (hx : a.eval x = .slice (some ⟨H, 0, none⟩) m c) (hcs : cs = news.toArray) (hlen : news.length = m * size) (h1 : ∀ u ∈ news, u.oneCell' = true)
    (hle : n + m ≤ 1000000000) (hB : B ≤ wr.heap.size)
    (h : ∀ v' w', w'.ownsRow B e size v' (n + m) (xs ++ news) → Below B wr w' → SameBut v wr w' → LiesAt v v' wr.heap.size → wpList Try.prog ops Q rest (a.put o.dst v') w') : wpList Try.prog ops Q (o :: rest) a (wr.alloc (.cells cs e)) := by
  subst hH
  exact wpList_appW t e z size bytes ht hinfo hzs hsz hby hgd s x ho B v n m xs news hs hown hx hcs hlen h1 hle hB h
theorem lies_ne {A1 A2 : Option Addr} {n m c1 c2 : Nat} {w3 : World} {o : Obj} (h : (Value.slice A1 n c1).ownBlock ≠ some w3.heap.size) (hl : LiesAt (.slice A1 n c1) (.slice A2 m c2) (w3.alloc o).heap.size) : (Value.slice A2 m c2).ownBlock ≠ some w3.heap.size := by
  rcases hl with e | ⟨g, e, hg⟩
  · rw [e]; exact h
  · rw [e]; intro e'; injection e' with e'; simp at hg; omega
theorem keep43 {w w' : World} {g h : Nat} {a0 a1 a2 a3 b0 b1 b2 : Value} (x : Box w g [a0, a1, a2, a3]) (y : Box w h [b0, b1, b2]) (hb : Below w.heap.size w w') :
    w'.cell? ⟨g, 0, none⟩ = some a0 ∧ w'.cell? ⟨g, 1, none⟩ = some a1 ∧ w'.cell? ⟨g, 2, none⟩ = some a2 ∧ w'.cell? ⟨g, 3, none⟩ = some a3 ∧ w'.cell? ⟨h, 0, none⟩ = some b0 ∧ w'.cell? ⟨h, 1, none⟩ = some b1 ∧ w'.cell? ⟨h, 2, none⟩ = some b2 ∧ w'.frozen? ⟨g, 2, none⟩ = false :=
  ⟨(x.below hb).c 0 rfl, (x.below hb).c 1 rfl, (x.below hb).c 2 rfl, (x.below hb).c 3 rfl, (y.below hb).c 0 rfl, (y.below hb).c 1 rfl, (y.below hb).c 2 rfl, (x.below hb).f 2 (by simp)⟩
theorem i_Enc_is (x y : Int) (d E : ByteArray) (w : World) (hd : d.size ≤ 1099511627776) (h : pktE x y d = E) :
    Calls Try.prog 63 #[.agg #[.int .i64 x, .int .i64 y, .string d]] w fun e w' => e = .returned (.string E) ∧ Below w.heap.size w w' := by
  subst h; exact i_EncodePacket x y d w hd
theorem s_Enc_is (x y : Int) (d E : ByteArray) (w : World) (hd : d.size ≤ 1099511627776) (h : pktE x y d = E) :
    Calls Try.prog 60 #[.agg #[.int .i64 x, .int .i64 y, .string d]] w fun e w' => e = .returned (.string E) ∧ Below w.heap.size w w' := by
  subst h; exact s_EncodePacket x y d w hd
theorem own_set2 {w : World} {B e size : Nat} {v : Value} {n : Nat} {xs : List Value} (h : w.ownsRow B e size v n xs) {p : Addr} (hg : v.ownBlock ≠ some p.block) (u : Value) : (w.setCell p u).ownsRow B e size v n xs := by
  refine ⟨h.1, ?_⟩
  rcases h.2 with hn | ⟨g, cap, cur, rfl, hb0, hgg, rest⟩
  · exact .inl hn
  · refine .inr ⟨g, cap, cur, rfl, hb0, ?_, rest⟩
    rw [Below.heap_setCell _ _ _ _ (by intro e; exact hg (by rw [e]; rfl))]; exact hgg
set_option maxHeartbeats 3200000 in
theorem i_PackPacket_no (a b : Int) (r : ByteArray) (A : Option Addr) (n c : Nat) (l : List Int) (x y : Int) (d : ByteArray) (w : World) (h : RI w A n l) (hn : n ≤ 1048576) (hr : r.size ≤ 1048576) (hd : d.size ≤ 1048576) (hq : (pkOk a b r l && pktOk x y d) = false) (hk : ppOk a b r l x y d = false) :
    Calls Try.prog 18 #[.agg #[.int .i64 a, .int .i64 b, .string r, .slice A n c], .agg #[.int .i64 x, .int .i64 y, .string d]] w (MadePack a b r l x y d w) := by
  have H := hide h
  have HL := hide h.1
  clear h
  have HK := hide hk
  obtain ⟨ok, hok⟩ : ∃ ok, pkOk a b r l = ok := ⟨_, rfl⟩
  obtain ⟨xk, hxk⟩ : ∃ xk, pktOk x y d = xk := ⟨_, rfl⟩
  have HP := hide hok
  have HX := hide hxk
  have hno : ok = true → xk = false := by intro e; rw [e] at hok; rw [hok, hxk] at hq; simpa using hq
  have HN := hide hno
  clear hk hok hxk hq hno
  go_enter Try.func18, Try.ntmps18
  go_wp2_with fail
  obtain ⟨hbW, pb, xb, rp⟩ := entry3 w #[.int .i64 a, .int .i64 b, .string r, .slice A n c] #[.int .i64 x, .int .i64 y, .string d] #[.int .i64 0, .int .i64 0, .string ⟨#[]⟩, .slice none 0 0] 27 36 27
  generalize (((w.alloc (.cells #[.int .i64 a, .int .i64 b, .string r, .slice A n c] 27)).alloc (.cells #[.int .i64 x, .int .i64 y, .string d] 36)).alloc (.cells #[.int .i64 0, .int .i64 0, .string ⟨#[]⟩, .slice none 0 0] 27)) = W at *
  have HB := hide hbW
  have PB : Hid (Box W w.heap.size [.int .i64 a, .int .i64 b, .string r, .slice A n c]) := pb
  have XB : Hid (Box W (w.heap.size + 1) [.int .i64 x, .int .i64 y, .string d]) := xb
  have RP : Hid (Box W (w.heap.size + 1 + 1) [.int .i64 0, .int .i64 0, .string ⟨#[]⟩, .slice none 0 0]) := rp
  have HG := hide (And.intro rp.1 hbW.size)
  clear hbW pb xb rp
  refine (i_PackerOk_is _ _ _ _ _ _ l _ _ (H.out.below HB.out) hn (by omega) HP.out).mono ?_
  rintro e w1 ⟨rfl, hb⟩
  replace HB := hide (HB.out.trans (hb.mono HB.out.size))
  replace PB := hide (PB.out.below hb)
  replace XB := hide (XB.out.below hb)
  replace RP := hide (RP.out.below hb)
  clear hb
  cases ok with
  | false =>
    have p0 := PB.out.c 0 rfl
    have p1 := PB.out.c 1 rfl
    have p2 := PB.out.c 2 rfl
    have p3 := PB.out.c 3 rfl
    go_wp2_with fail
    refine (i_clonePacker _ _ _ _ _ _ l _ (H.out.below HB.out) hn).mono ?_
    rintro e w2 ⟨v, rfl, ho, hb⟩
    obtain ⟨A1, c1, rfl⟩ := own_form ho
    have HG2 := hide (And.intro RP.out.1 HB.out.size)
    have O1 := hide ho
    clear p0 p1 p2 p3
    replace HB := hide (HB.out.trans (hb.mono HB.out.size))
    replace PB := hide (PB.out.below hb)
    replace XB := hide (XB.out.below hb)
    replace RP := hide (RP.out.below hb)
    clear ho hb
    have r0 := RP.out.c 0 rfl
    have r1 := RP.out.c 1 rfl
    have r2 := RP.out.c 2 rfl
    have r3 := RP.out.c 3 rfl
    have rf0 := RP.out.f 0 (by simp)
    have rf1 := RP.out.f 1 (by simp)
    have rf2 := RP.out.f 2 (by simp)
    have rf3 := RP.out.f 3 (by simp)
    go_wp2_with fail
    refine bodyPost_ret (v := .tuple #[.agg #[.int .i64 a, .int .i64 b, .string r, .slice A1 n c1], .bool false]) (by simp [results, Try.results18, go_sem, r0, r1, r2, r3]) rfl (made_pack_no HK.out ?_ ?_)
    · have hg1 := HG2.out.1
      have hoo := O1.out
      rw [HL.out]
      refine own_mono ?_ HG2.out.2
      repeat (first | with_reducible exact hoo | with_reducible refine World.ownsRow.drew ?_ | with_reducible refine own_set ?_ (by exact hg1) _)
    · have hbb := HB.out
      repeat (first | with_reducible exact hbb | with_reducible refine Below.drew ?_ | with_reducible refine below_drewN ?_ _ | with_reducible refine Below.setCell ?_ (by first | exact Nat.le_refl _ | exact Nat.le_succ _ | (simp; done) | omega | (simp; omega)) _)
  | true =>
    obtain rfl := HN.out rfl
    have x0 := XB.out.c 0 rfl
    have x1 := XB.out.c 1 rfl
    have x2 := XB.out.c 2 rfl
    go_wp2_with fail
    refine (i_PacketOk_is _ _ _ _ _ (by omega) HX.out).mono ?_
    rintro e w1b ⟨rfl, hb⟩
    clear x0 x1 x2
    replace HB := hide (HB.out.trans (hb.mono HB.out.size))
    replace PB := hide (PB.out.below hb)
    replace XB := hide (XB.out.below hb)
    replace RP := hide (RP.out.below hb)
    clear hb
    have p0 := PB.out.c 0 rfl
    have p1 := PB.out.c 1 rfl
    have p2 := PB.out.c 2 rfl
    have p3 := PB.out.c 3 rfl
    go_wp2_with fail
    refine (i_clonePacker _ _ _ _ _ _ l _ (H.out.below HB.out) hn).mono ?_
    rintro e w2 ⟨v, rfl, ho, hb⟩
    obtain ⟨A1, c1, rfl⟩ := own_form ho
    have HG2 := hide (And.intro RP.out.1 HB.out.size)
    have O1 := hide ho
    clear p0 p1 p2 p3
    replace HB := hide (HB.out.trans (hb.mono HB.out.size))
    replace PB := hide (PB.out.below hb)
    replace XB := hide (XB.out.below hb)
    replace RP := hide (RP.out.below hb)
    clear ho hb
    have r0 := RP.out.c 0 rfl
    have r1 := RP.out.c 1 rfl
    have r2 := RP.out.c 2 rfl
    have r3 := RP.out.c 3 rfl
    have rf0 := RP.out.f 0 (by simp)
    have rf1 := RP.out.f 1 (by simp)
    have rf2 := RP.out.f 2 (by simp)
    have rf3 := RP.out.f 3 (by simp)
    go_wp2_with fail
    refine bodyPost_ret (v := .tuple #[.agg #[.int .i64 a, .int .i64 b, .string r, .slice A1 n c1], .bool false]) (by simp [results, Try.results18, go_sem, r0, r1, r2, r3]) rfl (made_pack_no HK.out ?_ ?_)
    · have hg1 := HG2.out.1
      have hoo := O1.out
      rw [HL.out]
      refine own_mono ?_ HG2.out.2
      repeat (first | with_reducible exact hoo | with_reducible refine World.ownsRow.drew ?_ | with_reducible refine own_set ?_ (by exact hg1) _)
    · have hbb := HB.out
      repeat (first | with_reducible exact hbb | with_reducible refine Below.drew ?_ | with_reducible refine below_drewN ?_ _ | with_reducible refine Below.setCell ?_ (by first | exact Nat.le_refl _ | exact Nat.le_succ _ | (simp; done) | omega | (simp; omega)) _)
set_option maxHeartbeats 3200000 in
theorem i_PackPacket_x (a b : Int) (r : ByteArray) (A : Option Addr) (n c : Nat) (l : List Int) (x y : Int) (d : ByteArray) (w : World) (h : RI w A n l) (hn : n ≤ 1048576) (hr : r.size ≤ 1048576) (hd : d.size ≤ 1048576) (hp : pkOk a b r l = true) (hx : pktOk x y d = true) :
    Calls Try.prog 18 #[.agg #[.int .i64 a, .int .i64 b, .string r, .slice A n c], .agg #[.int .i64 x, .int .i64 y, .string d]] w (MadePack a b r l x y d w) := by
  have H := hide h
  have HL := hide h.1
  clear h
  have hdl := pktOk_len hx
  have hln := (pk_len hp).2
  have hll := (pk_len hp).1
  have hzn := HL.out
  have HP := hide hp
  have HX := hide hx
  have HZ := hide (pktE_size x y d)
  clear hp hx
  go_enter Try.func18, Try.ntmps18
  go_wp2_with fail
  obtain ⟨hbW, pb, xb, rp⟩ := entry3 w #[.int .i64 a, .int .i64 b, .string r, .slice A n c] #[.int .i64 x, .int .i64 y, .string d] #[.int .i64 0, .int .i64 0, .string ⟨#[]⟩, .slice none 0 0] 27 36 27
  generalize (((w.alloc (.cells #[.int .i64 a, .int .i64 b, .string r, .slice A n c] 27)).alloc (.cells #[.int .i64 x, .int .i64 y, .string d] 36)).alloc (.cells #[.int .i64 0, .int .i64 0, .string ⟨#[]⟩, .slice none 0 0] 27)) = W at *
  have HB := hide hbW
  have PB : Hid (Box W w.heap.size [.int .i64 a, .int .i64 b, .string r, .slice A n c]) := pb
  have XB : Hid (Box W (w.heap.size + 1) [.int .i64 x, .int .i64 y, .string d]) := xb
  have RP : Hid (Box W (w.heap.size + 1 + 1) [.int .i64 0, .int .i64 0, .string ⟨#[]⟩, .slice none 0 0]) := rp
  have HG := hide (And.intro rp.1 hbW.size)
  clear hbW pb xb rp
  refine (i_PackerOk_is _ _ _ _ _ _ l _ _ (H.out.below HB.out) hn (by omega) HP.out).mono ?_
  rintro e w1 ⟨rfl, hb⟩
  replace HB := hide (HB.out.trans (hb.mono HB.out.size))
  replace PB := hide (PB.out.below hb)
  replace XB := hide (XB.out.below hb)
  replace RP := hide (RP.out.below hb)
  clear hb
  have x0 := XB.out.c 0 rfl
  have x1 := XB.out.c 1 rfl
  have x2 := XB.out.c 2 rfl
  go_wp2_with fail
  refine (i_PacketOk_is _ _ _ _ _ (by omega) HX.out).mono ?_
  rintro e w2 ⟨rfl, hb⟩
  clear x0 x1 x2
  replace HB := hide (HB.out.trans (hb.mono HB.out.size))
  replace PB := hide (PB.out.below hb)
  replace XB := hide (XB.out.below hb)
  replace RP := hide (RP.out.below hb)
  clear hb
  have p0 := PB.out.c 0 rfl
  have p1 := PB.out.c 1 rfl
  have p2 := PB.out.c 2 rfl
  have p3 := PB.out.c 3 rfl
  go_wp2_with fail
  have hgr : w.heap.size + 1 + 1 < w2.heap.size := RP.out.1
  have hgw := hide HB.out.size
  refine (i_clonePacker _ _ _ _ _ _ l _ (H.out.below HB.out) hn).mono ?_
  rintro e w3 ⟨v, rfl, ho, hb⟩
  obtain ⟨A1, c1, rfl⟩ := own_form ho
  clear p0 p1 p2 p3
  replace HB := hide (HB.out.trans (hb.mono HB.out.size))
  replace PB := hide (PB.out.below hb)
  replace XB := hide (XB.out.below hb)
  replace RP := hide (RP.out.below hb)
  have hsz := hb.size
  have O1 := hide ho
  have D1 := hide (fun k hk => ho.lt k hk)
  clear ho hb
  generalize hB1 : w2.heap.size = B1 at *
  clear hB1
  obtain ⟨hA, qb⟩ := entry1 w3 #[.int .i64 a, .int .i64 b, .string r, .slice A1 n c1] 27
  have QB0 : Hid (Box (w3.alloc (.cells #[.int .i64 a, .int .i64 b, .string r, .slice A1 n c1] 27)) w3.heap.size [.int .i64 a, .int .i64 b, .string r, .slice A1 n c1]) := qb
  have HA := hide hA
  clear hA qb
  have hne : (Value.slice A1 n c1).ownBlock ≠ some w3.heap.size := by intro e; have := (D1.out _ e).2; omega
  have HNE := hide hne
  clear hne
  obtain ⟨E, hE⟩ : ∃ E, pktE x y d = E := ⟨_, rfl⟩
  have HE := hide hE
  have hez : E.size ≤ 12 + d.size := by rw [← hE]; exact HZ.out
  clear hE HZ
  go_wp2_with (at_builtin; go_loud (refine wpList_appWH (w3.heap.size + 1) (by simp) 22 3 (.int .i64 0) 1 8 Try.underlying22 infoI rfl (by decide) (by decide) rfl _ _ rfl B1 _ n 1 (Is l) [.int .i64 (r.size : Int)] rfl (O1.out.alloc _) rfl rfl rfl (one_int _) (by omega) (by rw [World.size_alloc]; omega) ?_; intro v' w4 ho' hb' hs' hl'; obtain ⟨A2, c2, rfl⟩ := own_form ho'; have hz4 := hb'.size; have QB := hide (QB0.out.same hs' hz4 HNE.out); have hx1 : w.heap.size + 1 < B1 := (by omega); have hx2 : w.heap.size < B1 := (by omega); replace PB := hide ((PB.out.alloc _).belowM hx2 hb'); replace XB := hide ((XB.out.alloc _).belowM hx1 hb'); replace RP := hide ((RP.out.alloc _).belowM hgr hb'); replace HB := hide ((HB.out.trans (HA.out.mono HB.out.size)).trans (hb'.mono (Nat.le_of_lt hx2))); have O2 := hide ho'; have HN2 := hide (lies_ne HNE.out hl'); have t3 := QB.out.c 3 rfl; have f3 := QB.out.f 3 (by simp); clear ho' hb' hs' hl' O1 QB0 HA hx1 hx2))
  clear t3 f3
  have hgq : B1 ≤ w3.heap.size := hsz
  generalize hgqe : w3.heap.size = gq at *
  clear hgqe
  have QB5 : Hid (Box (w4.setCell ⟨gq, 3, none⟩ (.slice A2 (n + 1) c2)) gq [.int .i64 a, .int .i64 b, .string r, .slice A2 (n + 1) c2]) := QB.out.setC 3 (by simp) _
  have PB5 := hide (PB.out.other ⟨gq, 3, none⟩ (by show gq ≠ w.heap.size; omega) (.slice A2 (n + 1) c2))
  have XB5 := hide (XB.out.other ⟨gq, 3, none⟩ (by show gq ≠ w.heap.size + 1; omega) (.slice A2 (n + 1) c2))
  have RP5 := hide (RP.out.other ⟨gq, 3, none⟩ (by show gq ≠ w.heap.size + 1 + 1; omega) (.slice A2 (n + 1) c2))
  have O5 := hide (own_set2 O2.out (p := ⟨gq, 3, none⟩) HN2.out (.slice A2 (n + 1) c2))
  have HB5 := hide (HB.out.setCell (p := ⟨gq, 3, none⟩) (by show w.heap.size ≤ gq; omega) (.slice A2 (n + 1) c2))
  clear QB PB XB RP O2 HB
  generalize w4.setCell ⟨gq, 3, none⟩ (.slice A2 (n + 1) c2) = W5 at *
  have q0 := QB5.out.c 0 rfl
  have q1 := QB5.out.c 1 rfl
  have q2 := QB5.out.c 2 rfl
  have q3 := QB5.out.c 3 rfl
  have qf0 := QB5.out.f 0 (by simp)
  have qf1 := QB5.out.f 1 (by simp)
  have qf2 := QB5.out.f 2 (by simp)
  have qf3 := QB5.out.f 3 (by simp)
  have x0 := XB5.out.c 0 rfl
  have x1 := XB5.out.c 1 rfl
  have x2 := XB5.out.c 2 rfl
  have hadd := fun w => run_string_add_sum (P := Try.prog) (w := w) r E (by omega)
  go_region_law (go_simp; go_at_call 63; refine (i_Enc_is x y d E _ (by omega) HE.out).mono ?_; rintro e w6 ⟨rfl, hb6⟩; (first | (replace hb6 : Below W5.heap.size W5 w6 := below_undrew hb6) | skip); have u2 := (QB5.out.below hb6).c 2 rfl; have uf2 := (QB5.out.below hb6).f 2 (by simp))
  all_goals
    have QB7 : Hid (Box (w6.setCell ⟨gq, 2, none⟩ (.string (r ++ E))) gq [.int .i64 a, .int .i64 b, .string (r ++ E), .slice A2 (n + 1) c2]) := (QB5.out.below hb6).setC 2 (by simp) _
    have PB7 := hide ((PB5.out.below hb6).other ⟨gq, 2, none⟩ (by show gq ≠ w.heap.size; omega) (.string (r ++ E)))
    have RP7 := hide ((RP5.out.below hb6).other ⟨gq, 2, none⟩ (by show gq ≠ w.heap.size + 1 + 1; omega) (.string (r ++ E)))
    have O7 := hide (own_set2 (own_below O5.out hb6) (p := ⟨gq, 2, none⟩) HN2.out (.string (r ++ E)))
    have HB7 := hide ((HB5.out.trans (hb6.mono HB5.out.size)).setCell (p := ⟨gq, 2, none⟩) (by show w.heap.size ≤ gq; omega) (.string (r ++ E)))
    clear QB5 PB5 XB5 RP5 O5 HB5 hb6 hadd q0 q1 q2 q3 qf0 qf1 qf2 qf3 x0 x1 x2 u2 uf2
    generalize w6.setCell ⟨gq, 2, none⟩ (.string (r ++ E)) = W7 at *
    rw [← Is_snoc] at O7
    have hll7 : (l ++ [(r.size : Int)]).length = n + 1 := by simp [hzn]
    obtain ⟨fk, hfk⟩ : ∃ fk, pkOk a b (r ++ E) (l ++ [(r.size : Int)]) = fk := ⟨_, rfl⟩
    have HF := hide hfk
    clear hfk
    have hre : (r ++ E).size ≤ 1099511627776 := by rw [ByteArray.size_append]; omega
    have HK := hide (show ppOk a b r l x y d = fk by unfold ppOk ppR ppL; rw [HP.out, HX.out, HE.out, HF.out]; rfl)
    have q0 := QB7.out.c 0 rfl
    have q1 := QB7.out.c 1 rfl
    have q2 := QB7.out.c 2 rfl
    have q3 := QB7.out.c 3 rfl
    go_wp2_with fail
    refine (i_PackerOk_is _ _ _ _ _ _ (l ++ [(r.size : Int)]) _ _ (RI.of_own O7.out) (by omega) hre HF.out).mono ?_
    rintro e w8 ⟨rfl, hb⟩
    clear q0 q1 q2 q3
    replace QB7 := hide (QB7.out.below hb)
    replace PB7 := hide (PB7.out.below hb)
    replace RP7 := hide (RP7.out.below hb)
    replace O7 := hide (own_below O7.out hb)
    replace HB7 := hide (HB7.out.trans (hb.mono HB7.out.size))
    clear hb
    cases fk with
    | false =>
      have p0 := PB7.out.c 0 rfl
      have p1 := PB7.out.c 1 rfl
      have p2 := PB7.out.c 2 rfl
      have p3 := PB7.out.c 3 rfl
      go_wp2_with fail
      have HG2 := hide (And.intro RP7.out.1 HB7.out.size)
      refine (i_clonePacker _ _ _ _ _ _ l _ (H.out.below HB7.out) hn).mono ?_
      rintro e w9 ⟨v, rfl, ho, hb⟩
      obtain ⟨A1, c1, rfl⟩ := own_form ho
      have O1 := hide ho
      clear p0 p1 p2 p3
      have RP := hide (RP7.out.below hb)
      have HB := hide (HB7.out.trans (hb.mono HB7.out.size))
      clear ho hb RP7 HB7 PB7 QB7 O7
      have r0 := RP.out.c 0 rfl
      have r1 := RP.out.c 1 rfl
      have r2 := RP.out.c 2 rfl
      have r3 := RP.out.c 3 rfl
      have rf0 := RP.out.f 0 (by simp)
      have rf1 := RP.out.f 1 (by simp)
      have rf2 := RP.out.f 2 (by simp)
      have rf3 := RP.out.f 3 (by simp)
      go_wp2_with fail
      refine bodyPost_ret (v := .tuple #[.agg #[.int .i64 a, .int .i64 b, .string r, .slice A1 n c1], .bool false]) (by simp [results, Try.results18, go_sem, r0, r1, r2, r3]) rfl (made_pack_no HK.out ?_ ?_)
      · have hg1 := HG2.out.1
        have hoo := O1.out
        rw [HL.out]
        refine own_mono ?_ HG2.out.2
        repeat (first | with_reducible exact hoo | with_reducible refine World.ownsRow.drew ?_ | with_reducible refine own_set ?_ (by exact hg1) _)
      · have hbb := HB.out
        repeat (first | with_reducible exact hbb | with_reducible refine Below.drew ?_ | with_reducible refine below_drewN ?_ _ | with_reducible refine Below.setCell ?_ (by first | exact Nat.le_refl _ | exact Nat.le_succ _ | (simp; done) | omega | (simp; omega)) _)
    | true =>
      have q0 := QB7.out.c 0 rfl
      have q1 := QB7.out.c 1 rfl
      have q2 := QB7.out.c 2 rfl
      have q3 := QB7.out.c 3 rfl
      have r0 := RP7.out.c 0 rfl
      have r1 := RP7.out.c 1 rfl
      have r2 := RP7.out.c 2 rfl
      have r3 := RP7.out.c 3 rfl
      have rf0 := RP7.out.f 0 (by simp)
      have rf1 := RP7.out.f 1 (by simp)
      have rf2 := RP7.out.f 2 (by simp)
      have rf3 := RP7.out.f 3 (by simp)
      have n1 : ¬ gq = w.heap.size + 1 + 1 := by omega
      have n2 : ¬ w.heap.size + 1 + 1 = gq := by omega
      go_wp2_with fail
      refine bodyPost_ret (v := .tuple #[.agg #[.int .i64 a, .int .i64 b, .string (r ++ E), .slice A2 (n + 1) c2], .bool true]) (by simp [results, Try.results18, go_sem, r0, r1, r2, r3]) rfl (made_pack_yesE HE.out HK.out ?_ ?_)
      · have hoo := O7.out
        rw [hll7]
        refine own_mono ?_ hgw.out
        repeat (first | with_reducible exact hoo | with_reducible refine World.ownsRow.drew ?_ | with_reducible refine own_set ?_ (by exact hgr) _)
      · have hbb := HB7.out
        repeat (first | with_reducible exact hbb | with_reducible refine Below.drew ?_ | with_reducible refine below_drewN ?_ _ | with_reducible refine Below.setCell ?_ (by first | exact Nat.le_refl _ | exact Nat.le_succ _ | (simp; done) | omega | (simp; omega)) _)
theorem i_PackPacket (a b : Int) (r : ByteArray) (A : Option Addr) (n c : Nat) (l : List Int) (x y : Int) (d : ByteArray) (w : World) (h : RI w A n l) (hn : n ≤ 1048576) (hr : r.size ≤ 1048576) (hd : d.size ≤ 1048576) :
    Calls Try.prog 18 #[.agg #[.int .i64 a, .int .i64 b, .string r, .slice A n c], .agg #[.int .i64 x, .int .i64 y, .string d]] w (MadePack a b r l x y d w) := by
  cases hp : pkOk a b r l with
  | false => exact i_PackPacket_no a b r A n c l x y d w h hn hr hd (by rw [hp]; rfl) (by unfold ppOk; rw [hp]; rfl)
  | true =>
    cases hx : pktOk x y d with
    | false => exact i_PackPacket_no a b r A n c l x y d w h hn hr hd (by rw [hx]; simp) (by unfold ppOk; rw [hx]; simp)
    | true => exact i_PackPacket_x a b r A n c l x y d w h hn hr hd hp hx
end Go.Proofs.Ytnelfadmcpacbaa
