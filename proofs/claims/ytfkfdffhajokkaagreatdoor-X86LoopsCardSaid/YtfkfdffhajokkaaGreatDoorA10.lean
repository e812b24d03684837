/- What package x86's reading of an operand answers; conditions: a text shorter than 2^32 less 15 bytes, forms of ASCII bytes, the library's variables as they begin. -/
import Derived.Test.YtfkfdffhajokkaaGreatDoorA09
import Derived.Deep.LoopGhost
namespace Go.Proofs.YtfkfdffhajokkaaGreatDoor
open Go.RowKit X
set_option linter.unusedSimpArgs false
/-- An iterator over a text, at a place. -/
def It (w : World) (k : Nat) (s : ByteArray) (p : Nat) : Prop := w.heap[k]? = some (.stringIter s p)
theorem It.lt {w : World} {k : Nat} {s : ByteArray} {p : Nat} (h : It w k s p) : k < w.heap.size := (Array.getElem?_eq_some_iff.1 h).1
theorem It.of_block {w w' : World} {k : Nat} {s : ByteArray} {p : Nat} (h : It w k s p) (e : w'.heap[k]? = w.heap[k]?) : It w' k s p := e.trans h
theorem It.below {w w' : World} {k : Nat} {s : ByteArray} {p : Nat} (h : It w k s p) (hb : Below w.heap.size w w') : It w' k s p := h.of_block (hb.block k h.lt)
theorem It.alloc {w : World} {k : Nat} {s : ByteArray} {p : Nat} (h : It w k s p) {o : Obj} : It (w.alloc o) k s p := h.of_block (Below.heap_alloc _ _ _ h.lt)
theorem It.other {w : World} {k : Nat} {s : ByteArray} {p : Nat} (h : It w k s p) {a : Addr} {v : Value} (hne : k ≠ a.block) : It (w.setCell a v) k s p := h.of_block (Below.heap_setCell _ _ _ _ hne)
theorem wpList_next {ops : Array Oper} {rest : List Oper} {o : Oper} {a : Act} {Q : Exit → Act → World → Prop} {w : World}
    (hg : o.guard = none) (x : Operand) (hop : o.op = Op.next x true) (b : Nat) (hx : a.eval x = .pointer (some ⟨b, 0, none⟩)) (s : ByteArray) (p : Nat) (hi : It w b s p) (h : p < s.size) (c : UInt8) (hc : (bl s).getD p 0 = c) (ha : c.toNat < 128)
    (hQ : ∀ w', It w' b s (p + 1) → Mapped w w' b → wpList Tryz.prog ops Q rest (a.put o.dst (.tuple #[.bool true, .int .i64 p, .int .i32 c.toNat])) w') :
    wpList Tryz.prog ops Q (o :: rest) a w := by
  refine wpList_plain hg fun K' hK' => ?_
  have hcc : s[p] = c := by rw [← hc, List.getD_eq_getElem?_getD, List.getElem?_eq_getElem (by rw [bl_len]; exact h)]; rfl
  have hset := Go.MapKept.heap_set (w := w) (o' := .stringIter s (p + 1)) hi
  have hrun : (Instr.next (.pointer (some ⟨b, 0, none⟩)) true o.type).run Tryz.prog w = .ok (.tuple #[.bool true, .int .i64 p, .int .i32 c.toNat]) { w with heap := w.heap.setIfInBounds b (.stringIter s (p + 1)) } := by
    unfold It at hi
    have hd := decode_ascii s p h (by rw [hcc]; exact ha)
    rw [hcc] at hd
    simp only [Instr.next, getObj, setObj, Sem.run_bind, Sem.run, hi, Result.andThen, h, if_true, hd, goInt]
    rfl
  unfold Oper.wp
  simp only [execOp, hop, hx, Sem.run_bind, hrun, Result.andThen, Sem.run_pure]
  exact hK' _ _ (hQ _ hset.1 ⟨rfl, rfl, rfl, by simp, hset.2⟩)
theorem wpList_over {ops : Array Oper} {rest : List Oper} {o : Oper} {a : Act} {Q : Exit → Act → World → Prop} {w : World}
    (hg : o.guard = none) (x : Operand) (hop : o.op = Op.next x true) (b : Nat) (hx : a.eval x = .pointer (some ⟨b, 0, none⟩)) (s : ByteArray) (p : Nat) (hi : It w b s p) (h : ¬ p < s.size)
    (hQ : wpList Tryz.prog ops Q rest (a.put o.dst (.tuple #[.bool false])) w) :
    wpList Tryz.prog ops Q (o :: rest) a w := by
  refine wpList_plain hg fun K' hK' => ?_
  have hrun : (Instr.next (.pointer (some ⟨b, 0, none⟩)) true o.type).run Tryz.prog w = .ok (.tuple #[.bool false]) w := by
    unfold It at hi
    simp only [Instr.next, getObj, Sem.run_bind, Sem.run, hi, Result.andThen, h, if_false]
    rfl
  unfold Oper.wp
  simp only [execOp, hop, hx, Sem.run_bind, hrun, Result.andThen, Sem.run_pure]
  exact hK' _ _ hQ
theorem drop_getD (l : Str) (k : Nat) (h : k < l.length) : l.drop k = l.getD k 0 :: l.drop (k + 1) := by
  rw [List.drop_eq_getElem_cons h]; simp [h]
theorem u8_beq {f c : UInt8} (h : ¬ f = c) : ((f.toNat : Int) == (c.toNat : Int)) = false := beq_f (fun e => h (UInt8.toNat_inj.1 (by omega)))
def Ascii (l : Str) : Prop := ∀ k, k < l.length → (l.getD k 0).toNat < 128
theorem take_cons (s : Str) (f : UInt8) (r : Str) (o : Opd) (ok : Bool) (h : takeOne f s = (o, ok)) : take s (f :: r) = if ok then (o, true) else take s r := by
  conv => lhs; unfold take
  rw [h]
set_option maxHeartbeats 2000000 in
set_option maxRecDepth 100000 in
theorem take_any (s fs : ByteArray) (hs : s.size < 4294967281) (ha : Ascii (bl fs)) (w : World) (E : Env w) :
    Calls Tryz.prog 48 #[.string s, .string fs] w fun e w' => e = .returned (.tuple #[Ov (take (bl s) (bl fs)).1, .bool (take (bl s) (bl fs)).2]) ∧ Below w.heap.size w w' := by
  obtain ⟨R, hR⟩ : ∃ R, take (bl s) (bl fs) = R := ⟨_, rfl⟩
  rw [hR]
  have HA := Lib.hid ha
  clear ha
  have hu9 := u9
  go_enter Tryz.func48, Tryz.ntmps48
  go_wp2_with fail
  go_loopg [16] fs.size (fun q v wr => ∃ k, k + q = fs.size ∧ Hid (take (bl s) ((bl fs).drop k) = R) ∧ Below w.heap.size w wr ∧ Bx wr w.heap.size #[.int .i64 0, .int .i64 0, .int .i64 0, .int .i64 0, .int .i64 0, .int .i64 0, .string { data := #[] }] 118 ∧ It wr (w.heap.size + 1) fs k)
  case atStart =>
    refine ⟨0, by omega, Lib.hid hR, balloc (balloc (Below.refl _ _) _) _, Bx.new.alloc, ?_⟩
    have := World.iter_heap (w.alloc zeroO) fs 0
    rw [World.size_alloc] at this
    exact this
  case round =>
    obtain ⟨k, hq, hg, B, X0, I⟩ := hrel
    clear hR
    by_cases hk : k < fs.size
    · obtain ⟨f, hf⟩ : ∃ f, (bl fs).getD k 0 = f := ⟨_, rfl⟩
      have hd := drop_getD (bl fs) k (by rw [bl_len]; exact hk)
      rw [hf] at hd
      have h128 : f.toNat < 128 := by rw [← hf]; exact HA.out k (by rw [bl_len]; exact hk)
      have hR2 := Lib.hid (show take (bl s) (f :: (bl fs).drop (k + 1)) = R by rw [← hd]; exact hg.out)
      clear hd hg
      have hx0 := X0.cell
      have hf0 := X0.frozen
      by_cases h73 : f = 73
      · subst h73
        obtain ⟨r, hres⟩ : ∃ r, immediate (bl s) 32 = r := ⟨_, rfl⟩
        obtain ⟨o, ok⟩ := r
        have hres1 := Lib.hid (take_cons (bl s) 73 ((bl fs).drop (k + 1)) o ok hres)
        have HC : ∀ (w : World) (E : Env w), Hid _ := fun w E => Lib.hid (immediate_any s hs 32 (.inl rfl) w E)
        rw [hres] at HC
        clear hres
        go_wp2_with (refine wpList_next rfl (.tmp 15) rfl (w.heap.size + 1) rfl fs k I hk 73 hf h128 ?_; clear I; intro w1 I m)
        have X1 := X0.of_block (m.block _ (by omega))
        have B1 := bmapped B m (by omega)
        have E1 := E.below (balloc B1 zeroO)
        clear X0 B m hx0 hf0
        refine ((HC _ E1).out).mono ?_
        rintro e w2 ⟨rfl, hb2⟩
        have X2 := X1.alloc.below hb2
        have Y2 := Bx.new.below hb2
        have I2 := I.alloc.below hb2
        have B2 := bstep (balloc B1 _) hb2
        have n0 : w.heap.size + 1 < w1.heap.size := I.lt
        have n1 : ¬ w.heap.size = w1.heap.size := by omega
        have n2 : ¬ w1.heap.size = w.heap.size := by omega
        have n3 : ¬ w.heap.size + 1 = w1.heap.size := by omega
        have n4 : w.heap.size < w1.heap.size := by omega
        clear X1 I B1
        have hx := X2.cell
        have hf1 := X2.frozen
        have hy := Y2.cell
        have hf2 := Y2.frozen
        cases ok
        · go_wp2_with fail
          go_roundg (gk - 1)
          case measure => omega
          case rel => exact ⟨k + 1, by omega, Lib.hid (by rw [← hR2.out, hres1.out]; rfl), by (repeat' (first | with_reducible assumption | with_reducible exact Below.refl _ _ | (with_reducible refine below_drewN ?_ _) | (with_reducible refine Below.drew ?_) | (with_reducible refine balloc ?_ _) | (with_reducible refine Below.setCell ?_ (by first | exact Nat.le_refl _ | (simp; done) | omega | (simp; omega)) _) | (with_reducible refine bstep ?_ (by with_reducible assumption)))), by (repeat (first | with_reducible exact X2 | with_reducible exact X1 | with_reducible refine Bx.other ?_ n1 | with_reducible refine Bx.alloc ?_)), by (repeat (first | with_reducible exact I2 | with_reducible exact I | with_reducible refine It.other ?_ n3 | with_reducible refine It.alloc ?_))⟩
        · go_wp2_with fail
          have hfin : R = (o, true) := by rw [← hR2.out, hres1.out]; rfl
          refine bodyPost_ret (v := .tuple #[Ov o, .bool true]) (by simp [results, Tryz.results48, go_sem, hx, hy, hf1, hf2, n1, n2, n4, Ov]) rfl ⟨by rw [hfin], ?_⟩
          (repeat' (first | with_reducible assumption | with_reducible exact Below.refl _ _ | (with_reducible refine below_drewN ?_ _) | (with_reducible refine Below.drew ?_) | (with_reducible refine balloc ?_ _) | (with_reducible refine Below.setCell ?_ (by first | exact Nat.le_refl _ | (simp; done) | omega | (simp; omega)) _) | (with_reducible refine bstep ?_ (by with_reducible assumption))))
      by_cases h74 : f = 74
      · subst h74
        obtain ⟨r, hres⟩ : ∃ r, immediate (bl s) 64 = r := ⟨_, rfl⟩
        obtain ⟨o, ok⟩ := r
        have hres1 := Lib.hid (take_cons (bl s) 74 ((bl fs).drop (k + 1)) o ok hres)
        have HC : ∀ (w : World) (E : Env w), Hid _ := fun w E => Lib.hid (immediate_any s hs 64 (.inr rfl) w E)
        rw [hres] at HC
        clear hres
        go_wp2_with (refine wpList_next rfl (.tmp 15) rfl (w.heap.size + 1) rfl fs k I hk 74 hf h128 ?_; clear I; intro w1 I m)
        have X1 := X0.of_block (m.block _ (by omega))
        have B1 := bmapped B m (by omega)
        have E1 := E.below (balloc B1 zeroO)
        clear X0 B m hx0 hf0
        refine ((HC _ E1).out).mono ?_
        rintro e w2 ⟨rfl, hb2⟩
        have X2 := X1.alloc.below hb2
        have Y2 := Bx.new.below hb2
        have I2 := I.alloc.below hb2
        have B2 := bstep (balloc B1 _) hb2
        have n0 : w.heap.size + 1 < w1.heap.size := I.lt
        have n1 : ¬ w.heap.size = w1.heap.size := by omega
        have n2 : ¬ w1.heap.size = w.heap.size := by omega
        have n3 : ¬ w.heap.size + 1 = w1.heap.size := by omega
        have n4 : w.heap.size < w1.heap.size := by omega
        clear X1 I B1
        have hx := X2.cell
        have hf1 := X2.frozen
        have hy := Y2.cell
        have hf2 := Y2.frozen
        cases ok
        · go_wp2_with fail
          go_roundg (gk - 1)
          case measure => omega
          case rel => exact ⟨k + 1, by omega, Lib.hid (by rw [← hR2.out, hres1.out]; rfl), by (repeat' (first | with_reducible assumption | with_reducible exact Below.refl _ _ | (with_reducible refine below_drewN ?_ _) | (with_reducible refine Below.drew ?_) | (with_reducible refine balloc ?_ _) | (with_reducible refine Below.setCell ?_ (by first | exact Nat.le_refl _ | (simp; done) | omega | (simp; omega)) _) | (with_reducible refine bstep ?_ (by with_reducible assumption)))), by (repeat (first | with_reducible exact X2 | with_reducible exact X1 | with_reducible refine Bx.other ?_ n1 | with_reducible refine Bx.alloc ?_)), by (repeat (first | with_reducible exact I2 | with_reducible exact I | with_reducible refine It.other ?_ n3 | with_reducible refine It.alloc ?_))⟩
        · go_wp2_with fail
          have hfin : R = (o, true) := by rw [← hR2.out, hres1.out]; rfl
          refine bodyPost_ret (v := .tuple #[Ov o, .bool true]) (by simp [results, Tryz.results48, go_sem, hx, hy, hf1, hf2, n1, n2, n4, Ov]) rfl ⟨by rw [hfin], ?_⟩
          (repeat' (first | with_reducible assumption | with_reducible exact Below.refl _ _ | (with_reducible refine below_drewN ?_ _) | (with_reducible refine Below.drew ?_) | (with_reducible refine balloc ?_ _) | (with_reducible refine Below.setCell ?_ (by first | exact Nat.le_refl _ | (simp; done) | omega | (simp; omega)) _) | (with_reducible refine bstep ?_ (by with_reducible assumption))))
      by_cases h83 : f = 83
      · subst h83
        obtain ⟨r, hres⟩ : ∃ r, immediate (bl s) 32 = r := ⟨_, rfl⟩
        obtain ⟨o, ok⟩ := r
        have HC : ∀ (w : World) (E : Env w), Hid _ := fun w E => Lib.hid (immediate_any s hs 32 (.inl rfl) w E)
        rw [hres] at HC
        have hT : takeOne 83 (bl s) = (o, ok && decide (0 ≤ o.n) && decide (o.n < 64)) := by have e : takeOne 83 (bl s) = ((immediate (bl s) 32).1, (immediate (bl s) 32).2 && decide (0 ≤ (immediate (bl s) 32).1.n) && decide ((immediate (bl s) 32).1.n < 64)) := rfl; rw [e, hres]
        have hres1 := Lib.hid (take_cons (bl s) 83 ((bl fs).drop (k + 1)) o _ hT)
        clear hT hres
        go_wp2_with (refine wpList_next rfl (.tmp 15) rfl (w.heap.size + 1) rfl fs k I hk 83 hf h128 ?_; clear I; intro w1 I m)
        have X1 := X0.of_block (m.block _ (by omega))
        have B1 := bmapped B m (by omega)
        have E1 := E.below (balloc B1 zeroO)
        clear X0 B m hx0 hf0
        refine ((HC _ E1).out).mono ?_
        rintro e w2 ⟨rfl, hb2⟩
        have X2 := X1.alloc.below hb2
        have Y2 := Bx.new.below hb2
        have I2 := I.alloc.below hb2
        have B2 := bstep (balloc B1 _) hb2
        have n0 : w.heap.size + 1 < w1.heap.size := I.lt
        have n1 : ¬ w.heap.size = w1.heap.size := by omega
        have n2 : ¬ w1.heap.size = w.heap.size := by omega
        have n3 : ¬ w.heap.size + 1 = w1.heap.size := by omega
        have n4 : w.heap.size < w1.heap.size := by omega
        clear X1 I B1
        have hx := X2.cell
        have hf1 := X2.frozen
        have hy := Y2.cell
        have hf2 := Y2.frozen
        cases ok
        · go_wp2_with fail
          go_roundg (gk - 1)
          case measure => omega
          case rel => exact ⟨k + 1, by omega, Lib.hid (by rw [← hR2.out, hres1.out]; rfl), by (repeat' (first | with_reducible assumption | with_reducible exact Below.refl _ _ | (with_reducible refine below_drewN ?_ _) | (with_reducible refine Below.drew ?_) | (with_reducible refine balloc ?_ _) | (with_reducible refine Below.setCell ?_ (by first | exact Nat.le_refl _ | (simp; done) | omega | (simp; omega)) _) | (with_reducible refine bstep ?_ (by with_reducible assumption)))), by (repeat (first | with_reducible exact X2 | with_reducible exact X1 | with_reducible refine Bx.other ?_ n1 | with_reducible refine Bx.alloc ?_)), by (repeat (first | with_reducible exact I2 | with_reducible exact I | with_reducible refine It.other ?_ n3 | with_reducible refine It.alloc ?_))⟩
        · by_cases c0 : 0 ≤ o.n
          · by_cases c1 : o.n < 64
            · have hres1 := Lib.hid (hres1.out.trans (by rw [decide_eq_true c0, decide_eq_true c1]; rfl : _ = (if true then (o, true) else take (bl s) ((bl fs).drop (k + 1)))))
              go_wp2_with fail
              have hfin : R = (o, true) := by rw [← hR2.out, hres1.out]; rfl
              refine bodyPost_ret (v := .tuple #[Ov o, .bool true]) (by simp [results, Tryz.results48, go_sem, hx, hy, hf1, hf2, n1, n2, n4, Ov]) rfl ⟨by rw [hfin], ?_⟩
              (repeat' (first | with_reducible assumption | with_reducible exact Below.refl _ _ | (with_reducible refine below_drewN ?_ _) | (with_reducible refine Below.drew ?_) | (with_reducible refine balloc ?_ _) | (with_reducible refine Below.setCell ?_ (by first | exact Nat.le_refl _ | (simp; done) | omega | (simp; omega)) _) | (with_reducible refine bstep ?_ (by with_reducible assumption))))
            · have hres1 := Lib.hid (hres1.out.trans (by rw [decide_eq_false c1, Bool.and_false] : _ = (if false then (o, true) else take (bl s) ((bl fs).drop (k + 1)))))
              go_wp2_with fail
              go_roundg (gk - 1)
              case measure => omega
              case rel => exact ⟨k + 1, by omega, Lib.hid (by rw [← hR2.out, hres1.out]; rfl), by (repeat' (first | with_reducible assumption | with_reducible exact Below.refl _ _ | (with_reducible refine below_drewN ?_ _) | (with_reducible refine Below.drew ?_) | (with_reducible refine balloc ?_ _) | (with_reducible refine Below.setCell ?_ (by first | exact Nat.le_refl _ | (simp; done) | omega | (simp; omega)) _) | (with_reducible refine bstep ?_ (by with_reducible assumption)))), by (repeat (first | with_reducible exact X2 | with_reducible exact X1 | with_reducible refine Bx.other ?_ n1 | with_reducible refine Bx.alloc ?_)), by (repeat (first | with_reducible exact I2 | with_reducible exact I | with_reducible refine It.other ?_ n3 | with_reducible refine It.alloc ?_))⟩
          · have hres1 := Lib.hid (hres1.out.trans (by rw [decide_eq_false c0]; rfl : _ = (if false then (o, true) else take (bl s) ((bl fs).drop (k + 1)))))
            go_wp2_with fail
            go_roundg (gk - 1)
            case measure => omega
            case rel => exact ⟨k + 1, by omega, Lib.hid (by rw [← hR2.out, hres1.out]; rfl), by (repeat' (first | with_reducible assumption | with_reducible exact Below.refl _ _ | (with_reducible refine below_drewN ?_ _) | (with_reducible refine Below.drew ?_) | (with_reducible refine balloc ?_ _) | (with_reducible refine Below.setCell ?_ (by first | exact Nat.le_refl _ | (simp; done) | omega | (simp; omega)) _) | (with_reducible refine bstep ?_ (by with_reducible assumption)))), by (repeat (first | with_reducible exact X2 | with_reducible exact X1 | with_reducible refine Bx.other ?_ n1 | with_reducible refine Bx.alloc ?_)), by (repeat (first | with_reducible exact I2 | with_reducible exact I | with_reducible refine It.other ?_ n3 | with_reducible refine It.alloc ?_))⟩
      by_cases h82 : f = 82
      · subst h82
        obtain ⟨r, hres⟩ : ∃ r, wide (bl s) = r := ⟨_, rfl⟩
        obtain ⟨o, ok⟩ := r
        have hres1 := Lib.hid (take_cons (bl s) 82 ((bl fs).drop (k + 1)) o ok hres)
        have HC : ∀ (w : World) (E : Env w), Hid _ := fun w E => Lib.hid (wide_any s w)
        rw [hres] at HC
        clear hres
        go_wp2_with (refine wpList_next rfl (.tmp 15) rfl (w.heap.size + 1) rfl fs k I hk 82 hf h128 ?_; clear I; intro w1 I m)
        have X1 := X0.of_block (m.block _ (by omega))
        have B1 := bmapped B m (by omega)
        have E1 := E.below (balloc B1 zeroO)
        clear X0 B m hx0 hf0
        refine ((HC _ E1).out).mono ?_
        rintro e w2 ⟨rfl, hb2⟩
        have X2 := X1.alloc.below hb2
        have Y2 := Bx.new.below hb2
        have I2 := I.alloc.below hb2
        have B2 := bstep (balloc B1 _) hb2
        have n0 : w.heap.size + 1 < w1.heap.size := I.lt
        have n1 : ¬ w.heap.size = w1.heap.size := by omega
        have n2 : ¬ w1.heap.size = w.heap.size := by omega
        have n3 : ¬ w.heap.size + 1 = w1.heap.size := by omega
        have n4 : w.heap.size < w1.heap.size := by omega
        clear X1 I B1
        have hx := X2.cell
        have hf1 := X2.frozen
        have hy := Y2.cell
        have hf2 := Y2.frozen
        cases ok
        · go_wp2_with fail
          go_roundg (gk - 1)
          case measure => omega
          case rel => exact ⟨k + 1, by omega, Lib.hid (by rw [← hR2.out, hres1.out]; rfl), by (repeat' (first | with_reducible assumption | with_reducible exact Below.refl _ _ | (with_reducible refine below_drewN ?_ _) | (with_reducible refine Below.drew ?_) | (with_reducible refine balloc ?_ _) | (with_reducible refine Below.setCell ?_ (by first | exact Nat.le_refl _ | (simp; done) | omega | (simp; omega)) _) | (with_reducible refine bstep ?_ (by with_reducible assumption)))), by (repeat (first | with_reducible exact X2 | with_reducible exact X1 | with_reducible refine Bx.other ?_ n1 | with_reducible refine Bx.alloc ?_)), by (repeat (first | with_reducible exact I2 | with_reducible exact I | with_reducible refine It.other ?_ n3 | with_reducible refine It.alloc ?_))⟩
        · go_wp2_with fail
          have hfin : R = (o, true) := by rw [← hR2.out, hres1.out]; rfl
          refine bodyPost_ret (v := .tuple #[Ov o, .bool true]) (by simp [results, Tryz.results48, go_sem, hx, hy, hf1, hf2, n1, n2, n4, Ov]) rfl ⟨by rw [hfin], ?_⟩
          (repeat' (first | with_reducible assumption | with_reducible exact Below.refl _ _ | (with_reducible refine below_drewN ?_ _) | (with_reducible refine Below.drew ?_) | (with_reducible refine balloc ?_ _) | (with_reducible refine Below.setCell ?_ (by first | exact Nat.le_refl _ | (simp; done) | omega | (simp; omega)) _) | (with_reducible refine bstep ?_ (by with_reducible assumption))))
      by_cases h77 : f = 77
      · subst h77
        obtain ⟨r, hres⟩ : ∃ r, memory (bl s) = r := ⟨_, rfl⟩
        obtain ⟨o, ok⟩ := r
        have hres1 := Lib.hid (take_cons (bl s) 77 ((bl fs).drop (k + 1)) o ok hres)
        have HC : ∀ (w : World) (E : Env w), Hid _ := fun w E => Lib.hid (memory_any s hs w E)
        rw [hres] at HC
        clear hres
        go_wp2_with (refine wpList_next rfl (.tmp 15) rfl (w.heap.size + 1) rfl fs k I hk 77 hf h128 ?_; clear I; intro w1 I m)
        have X1 := X0.of_block (m.block _ (by omega))
        have B1 := bmapped B m (by omega)
        have E1 := E.below (balloc B1 zeroO)
        clear X0 B m hx0 hf0
        refine ((HC _ E1).out).mono ?_
        rintro e w2 ⟨rfl, hb2⟩
        have X2 := X1.alloc.below hb2
        have Y2 := Bx.new.below hb2
        have I2 := I.alloc.below hb2
        have B2 := bstep (balloc B1 _) hb2
        have n0 : w.heap.size + 1 < w1.heap.size := I.lt
        have n1 : ¬ w.heap.size = w1.heap.size := by omega
        have n2 : ¬ w1.heap.size = w.heap.size := by omega
        have n3 : ¬ w.heap.size + 1 = w1.heap.size := by omega
        have n4 : w.heap.size < w1.heap.size := by omega
        clear X1 I B1
        have hx := X2.cell
        have hf1 := X2.frozen
        have hy := Y2.cell
        have hf2 := Y2.frozen
        cases ok
        · go_wp2_with fail
          go_roundg (gk - 1)
          case measure => omega
          case rel => exact ⟨k + 1, by omega, Lib.hid (by rw [← hR2.out, hres1.out]; rfl), by (repeat' (first | with_reducible assumption | with_reducible exact Below.refl _ _ | (with_reducible refine below_drewN ?_ _) | (with_reducible refine Below.drew ?_) | (with_reducible refine balloc ?_ _) | (with_reducible refine Below.setCell ?_ (by first | exact Nat.le_refl _ | (simp; done) | omega | (simp; omega)) _) | (with_reducible refine bstep ?_ (by with_reducible assumption)))), by (repeat (first | with_reducible exact X2 | with_reducible exact X1 | with_reducible refine Bx.other ?_ n1 | with_reducible refine Bx.alloc ?_)), by (repeat (first | with_reducible exact I2 | with_reducible exact I | with_reducible refine It.other ?_ n3 | with_reducible refine It.alloc ?_))⟩
        · go_wp2_with fail
          have hfin : R = (o, true) := by rw [← hR2.out, hres1.out]; rfl
          refine bodyPost_ret (v := .tuple #[Ov o, .bool true]) (by simp [results, Tryz.results48, go_sem, hx, hy, hf1, hf2, n1, n2, n4, Ov]) rfl ⟨by rw [hfin], ?_⟩
          (repeat' (first | with_reducible assumption | with_reducible exact Below.refl _ _ | (with_reducible refine below_drewN ?_ _) | (with_reducible refine Below.drew ?_) | (with_reducible refine balloc ?_ _) | (with_reducible refine Below.setCell ?_ (by first | exact Nat.le_refl _ | (simp; done) | omega | (simp; omega)) _) | (with_reducible refine bstep ?_ (by with_reducible assumption))))
      by_cases h98 : f = 98
      · subst h98
        obtain ⟨r, hres⟩ : ∃ r, X.part (bl s) 1 = r := ⟨_, rfl⟩
        obtain ⟨o, ok⟩ := r
        have hres1 := Lib.hid (take_cons (bl s) 98 ((bl fs).drop (k + 1)) o ok hres)
        have HC : ∀ (w : World) (E : Env w), Hid _ := fun w E => Lib.hid (part_any s 1 (by simp) w)
        rw [hres] at HC
        clear hres
        go_wp2_with (refine wpList_next rfl (.tmp 15) rfl (w.heap.size + 1) rfl fs k I hk 98 hf h128 ?_; clear I; intro w1 I m)
        have X1 := X0.of_block (m.block _ (by omega))
        have B1 := bmapped B m (by omega)
        have E1 := E.below (balloc B1 zeroO)
        clear X0 B m hx0 hf0
        refine ((HC _ E1).out).mono ?_
        rintro e w2 ⟨rfl, hb2⟩
        have X2 := X1.alloc.below hb2
        have Y2 := Bx.new.below hb2
        have I2 := I.alloc.below hb2
        have B2 := bstep (balloc B1 _) hb2
        have n0 : w.heap.size + 1 < w1.heap.size := I.lt
        have n1 : ¬ w.heap.size = w1.heap.size := by omega
        have n2 : ¬ w1.heap.size = w.heap.size := by omega
        have n3 : ¬ w.heap.size + 1 = w1.heap.size := by omega
        have n4 : w.heap.size < w1.heap.size := by omega
        clear X1 I B1
        have hx := X2.cell
        have hf1 := X2.frozen
        have hy := Y2.cell
        have hf2 := Y2.frozen
        cases ok
        · go_wp2_with fail
          go_roundg (gk - 1)
          case measure => omega
          case rel => exact ⟨k + 1, by omega, Lib.hid (by rw [← hR2.out, hres1.out]; rfl), by (repeat' (first | with_reducible assumption | with_reducible exact Below.refl _ _ | (with_reducible refine below_drewN ?_ _) | (with_reducible refine Below.drew ?_) | (with_reducible refine balloc ?_ _) | (with_reducible refine Below.setCell ?_ (by first | exact Nat.le_refl _ | (simp; done) | omega | (simp; omega)) _) | (with_reducible refine bstep ?_ (by with_reducible assumption)))), by (repeat (first | with_reducible exact X2 | with_reducible exact X1 | with_reducible refine Bx.other ?_ n1 | with_reducible refine Bx.alloc ?_)), by (repeat (first | with_reducible exact I2 | with_reducible exact I | with_reducible refine It.other ?_ n3 | with_reducible refine It.alloc ?_))⟩
        · go_wp2_with fail
          have hfin : R = (o, true) := by rw [← hR2.out, hres1.out]; rfl
          refine bodyPost_ret (v := .tuple #[Ov o, .bool true]) (by simp [results, Tryz.results48, go_sem, hx, hy, hf1, hf2, n1, n2, n4, Ov]) rfl ⟨by rw [hfin], ?_⟩
          (repeat' (first | with_reducible assumption | with_reducible exact Below.refl _ _ | (with_reducible refine below_drewN ?_ _) | (with_reducible refine Below.drew ?_) | (with_reducible refine balloc ?_ _) | (with_reducible refine Below.setCell ?_ (by first | exact Nat.le_refl _ | (simp; done) | omega | (simp; omega)) _) | (with_reducible refine bstep ?_ (by with_reducible assumption))))
      by_cases h119 : f = 119
      · subst h119
        obtain ⟨r, hres⟩ : ∃ r, X.part (bl s) 2 = r := ⟨_, rfl⟩
        obtain ⟨o, ok⟩ := r
        have hres1 := Lib.hid (take_cons (bl s) 119 ((bl fs).drop (k + 1)) o ok hres)
        have HC : ∀ (w : World) (E : Env w), Hid _ := fun w E => Lib.hid (part_any s 2 (by simp) w)
        rw [hres] at HC
        clear hres
        go_wp2_with (refine wpList_next rfl (.tmp 15) rfl (w.heap.size + 1) rfl fs k I hk 119 hf h128 ?_; clear I; intro w1 I m)
        have X1 := X0.of_block (m.block _ (by omega))
        have B1 := bmapped B m (by omega)
        have E1 := E.below (balloc B1 zeroO)
        clear X0 B m hx0 hf0
        refine ((HC _ E1).out).mono ?_
        rintro e w2 ⟨rfl, hb2⟩
        have X2 := X1.alloc.below hb2
        have Y2 := Bx.new.below hb2
        have I2 := I.alloc.below hb2
        have B2 := bstep (balloc B1 _) hb2
        have n0 : w.heap.size + 1 < w1.heap.size := I.lt
        have n1 : ¬ w.heap.size = w1.heap.size := by omega
        have n2 : ¬ w1.heap.size = w.heap.size := by omega
        have n3 : ¬ w.heap.size + 1 = w1.heap.size := by omega
        have n4 : w.heap.size < w1.heap.size := by omega
        clear X1 I B1
        have hx := X2.cell
        have hf1 := X2.frozen
        have hy := Y2.cell
        have hf2 := Y2.frozen
        cases ok
        · go_wp2_with fail
          go_roundg (gk - 1)
          case measure => omega
          case rel => exact ⟨k + 1, by omega, Lib.hid (by rw [← hR2.out, hres1.out]; rfl), by (repeat' (first | with_reducible assumption | with_reducible exact Below.refl _ _ | (with_reducible refine below_drewN ?_ _) | (with_reducible refine Below.drew ?_) | (with_reducible refine balloc ?_ _) | (with_reducible refine Below.setCell ?_ (by first | exact Nat.le_refl _ | (simp; done) | omega | (simp; omega)) _) | (with_reducible refine bstep ?_ (by with_reducible assumption)))), by (repeat (first | with_reducible exact X2 | with_reducible exact X1 | with_reducible refine Bx.other ?_ n1 | with_reducible refine Bx.alloc ?_)), by (repeat (first | with_reducible exact I2 | with_reducible exact I | with_reducible refine It.other ?_ n3 | with_reducible refine It.alloc ?_))⟩
        · go_wp2_with fail
          have hfin : R = (o, true) := by rw [← hR2.out, hres1.out]; rfl
          refine bodyPost_ret (v := .tuple #[Ov o, .bool true]) (by simp [results, Tryz.results48, go_sem, hx, hy, hf1, hf2, n1, n2, n4, Ov]) rfl ⟨by rw [hfin], ?_⟩
          (repeat' (first | with_reducible assumption | with_reducible exact Below.refl _ _ | (with_reducible refine below_drewN ?_ _) | (with_reducible refine Below.drew ?_) | (with_reducible refine balloc ?_ _) | (with_reducible refine Below.setCell ?_ (by first | exact Nat.le_refl _ | (simp; done) | omega | (simp; omega)) _) | (with_reducible refine bstep ?_ (by with_reducible assumption))))
      by_cases h108 : f = 108
      · subst h108
        obtain ⟨r, hres⟩ : ∃ r, X.part (bl s) 4 = r := ⟨_, rfl⟩
        obtain ⟨o, ok⟩ := r
        have hres1 := Lib.hid (take_cons (bl s) 108 ((bl fs).drop (k + 1)) o ok hres)
        have HC : ∀ (w : World) (E : Env w), Hid _ := fun w E => Lib.hid (part_any s 4 (by simp) w)
        rw [hres] at HC
        clear hres
        go_wp2_with (refine wpList_next rfl (.tmp 15) rfl (w.heap.size + 1) rfl fs k I hk 108 hf h128 ?_; clear I; intro w1 I m)
        have X1 := X0.of_block (m.block _ (by omega))
        have B1 := bmapped B m (by omega)
        have E1 := E.below (balloc B1 zeroO)
        clear X0 B m hx0 hf0
        refine ((HC _ E1).out).mono ?_
        rintro e w2 ⟨rfl, hb2⟩
        have X2 := X1.alloc.below hb2
        have Y2 := Bx.new.below hb2
        have I2 := I.alloc.below hb2
        have B2 := bstep (balloc B1 _) hb2
        have n0 : w.heap.size + 1 < w1.heap.size := I.lt
        have n1 : ¬ w.heap.size = w1.heap.size := by omega
        have n2 : ¬ w1.heap.size = w.heap.size := by omega
        have n3 : ¬ w.heap.size + 1 = w1.heap.size := by omega
        have n4 : w.heap.size < w1.heap.size := by omega
        clear X1 I B1
        have hx := X2.cell
        have hf1 := X2.frozen
        have hy := Y2.cell
        have hf2 := Y2.frozen
        cases ok
        · go_wp2_with fail
          go_roundg (gk - 1)
          case measure => omega
          case rel => exact ⟨k + 1, by omega, Lib.hid (by rw [← hR2.out, hres1.out]; rfl), by (repeat' (first | with_reducible assumption | with_reducible exact Below.refl _ _ | (with_reducible refine below_drewN ?_ _) | (with_reducible refine Below.drew ?_) | (with_reducible refine balloc ?_ _) | (with_reducible refine Below.setCell ?_ (by first | exact Nat.le_refl _ | (simp; done) | omega | (simp; omega)) _) | (with_reducible refine bstep ?_ (by with_reducible assumption)))), by (repeat (first | with_reducible exact X2 | with_reducible exact X1 | with_reducible refine Bx.other ?_ n1 | with_reducible refine Bx.alloc ?_)), by (repeat (first | with_reducible exact I2 | with_reducible exact I | with_reducible refine It.other ?_ n3 | with_reducible refine It.alloc ?_))⟩
        · go_wp2_with fail
          have hfin : R = (o, true) := by rw [← hR2.out, hres1.out]; rfl
          refine bodyPost_ret (v := .tuple #[Ov o, .bool true]) (by simp [results, Tryz.results48, go_sem, hx, hy, hf1, hf2, n1, n2, n4, Ov]) rfl ⟨by rw [hfin], ?_⟩
          (repeat' (first | with_reducible assumption | with_reducible exact Below.refl _ _ | (with_reducible refine below_drewN ?_ _) | (with_reducible refine Below.drew ?_) | (with_reducible refine balloc ?_ _) | (with_reducible refine Below.setCell ?_ (by first | exact Nat.le_refl _ | (simp; done) | omega | (simp; omega)) _) | (with_reducible refine bstep ?_ (by with_reducible assumption))))
      by_cases h66 : f = 66
      · subst h66
        obtain ⟨r, hres⟩ : ∃ r, X.part (bl s) 1 = r := ⟨_, rfl⟩
        obtain ⟨o, ok⟩ := r
        have HC : ∀ (w : World) (E : Env w), Hid _ := fun w E => Lib.hid (part_any s 1 (by simp) w)
        rw [hres] at HC
        have hT : takeOne 66 (bl s) = (o, ok && decide (o.reg = 2)) := by have e : takeOne 66 (bl s) = ((X.part (bl s) 1).1, (X.part (bl s) 1).2 && decide ((X.part (bl s) 1).1.reg = 2)) := rfl; rw [e, hres]
        have hres1 := Lib.hid (take_cons (bl s) 66 ((bl fs).drop (k + 1)) o _ hT)
        clear hT hres
        go_wp2_with (refine wpList_next rfl (.tmp 15) rfl (w.heap.size + 1) rfl fs k I hk 66 hf h128 ?_; clear I; intro w1 I m)
        have X1 := X0.of_block (m.block _ (by omega))
        have B1 := bmapped B m (by omega)
        have E1 := E.below (balloc B1 zeroO)
        clear X0 B m hx0 hf0
        refine ((HC _ E1).out).mono ?_
        rintro e w2 ⟨rfl, hb2⟩
        have X2 := X1.alloc.below hb2
        have Y2 := Bx.new.below hb2
        have I2 := I.alloc.below hb2
        have B2 := bstep (balloc B1 _) hb2
        have n0 : w.heap.size + 1 < w1.heap.size := I.lt
        have n1 : ¬ w.heap.size = w1.heap.size := by omega
        have n2 : ¬ w1.heap.size = w.heap.size := by omega
        have n3 : ¬ w.heap.size + 1 = w1.heap.size := by omega
        have n4 : w.heap.size < w1.heap.size := by omega
        clear X1 I B1
        have hx := X2.cell
        have hf1 := X2.frozen
        have hy := Y2.cell
        have hf2 := Y2.frozen
        cases ok
        · go_wp2_with fail
          go_roundg (gk - 1)
          case measure => omega
          case rel => exact ⟨k + 1, by omega, Lib.hid (by rw [← hR2.out, hres1.out]; rfl), by (repeat' (first | with_reducible assumption | with_reducible exact Below.refl _ _ | (with_reducible refine below_drewN ?_ _) | (with_reducible refine Below.drew ?_) | (with_reducible refine balloc ?_ _) | (with_reducible refine Below.setCell ?_ (by first | exact Nat.le_refl _ | (simp; done) | omega | (simp; omega)) _) | (with_reducible refine bstep ?_ (by with_reducible assumption)))), by (repeat (first | with_reducible exact X2 | with_reducible exact X1 | with_reducible refine Bx.other ?_ n1 | with_reducible refine Bx.alloc ?_)), by (repeat (first | with_reducible exact I2 | with_reducible exact I | with_reducible refine It.other ?_ n3 | with_reducible refine It.alloc ?_))⟩
        · by_cases c0 : o.reg = 2
          · have hres1 := Lib.hid (hres1.out.trans (by rw [decide_eq_true c0]; rfl : _ = (if true then (o, true) else take (bl s) ((bl fs).drop (k + 1)))))
            have c0' : (o.reg == 2) = true := beq_iff_eq.2 c0
            clear c0
            go_wp2_with fail
            have hfin : R = (o, true) := by rw [← hR2.out, hres1.out]; rfl
            refine bodyPost_ret (v := .tuple #[Ov o, .bool true]) (by simp [results, Tryz.results48, go_sem, hx, hy, hf1, hf2, n1, n2, n4, Ov]) rfl ⟨by rw [hfin], ?_⟩
            (repeat' (first | with_reducible assumption | with_reducible exact Below.refl _ _ | (with_reducible refine below_drewN ?_ _) | (with_reducible refine Below.drew ?_) | (with_reducible refine balloc ?_ _) | (with_reducible refine Below.setCell ?_ (by first | exact Nat.le_refl _ | (simp; done) | omega | (simp; omega)) _) | (with_reducible refine bstep ?_ (by with_reducible assumption))))
          · have hres1 := Lib.hid (hres1.out.trans (by rw [decide_eq_false c0]; rfl : _ = (if false then (o, true) else take (bl s) ((bl fs).drop (k + 1)))))
            have c0' : (o.reg == 2) = false := beq_f c0
            clear c0
            go_wp2_with fail
            go_roundg (gk - 1)
            case measure => omega
            case rel => exact ⟨k + 1, by omega, Lib.hid (by rw [← hR2.out, hres1.out]; rfl), by (repeat' (first | with_reducible assumption | with_reducible exact Below.refl _ _ | (with_reducible refine below_drewN ?_ _) | (with_reducible refine Below.drew ?_) | (with_reducible refine balloc ?_ _) | (with_reducible refine Below.setCell ?_ (by first | exact Nat.le_refl _ | (simp; done) | omega | (simp; omega)) _) | (with_reducible refine bstep ?_ (by with_reducible assumption)))), by (repeat (first | with_reducible exact X2 | with_reducible exact X1 | with_reducible refine Bx.other ?_ n1 | with_reducible refine Bx.alloc ?_)), by (repeat (first | with_reducible exact I2 | with_reducible exact I | with_reducible refine It.other ?_ n3 | with_reducible refine It.alloc ?_))⟩
      by_cases h76 : f = 76
      · subst h76
        obtain ⟨ok, hres⟩ : ∃ r, named (bl s) = r := ⟨_, rfl⟩
        have HC : ∀ (w : World), Hid _ := fun w => Lib.hid (named_any s hs w)
        rw [hres] at HC
        have hT : takeOne 76 (bl s) = (⟨4, 0, 0, 0, 0, 0, bl s⟩, ok) := by have e : takeOne 76 (bl s) = (⟨4, 0, 0, 0, 0, 0, bl s⟩, named (bl s)) := rfl; rw [e, hres]
        have hres1 := Lib.hid (take_cons (bl s) 76 ((bl fs).drop (k + 1)) ⟨4, 0, 0, 0, 0, 0, bl s⟩ _ hT)
        clear hT hres
        go_wp2_with (refine wpList_next rfl (.tmp 15) rfl (w.heap.size + 1) rfl fs k I hk 76 hf h128 ?_; clear I; intro w1 I m)
        have X1 := X0.of_block (m.block _ (by omega))
        have B1 := bmapped B m (by omega)
        have E1 := E.below (balloc B1 zeroO)
        clear X0 B m hx0 hf0
        refine ((HC _).out).mono ?_
        rintro e w2 ⟨rfl, rfl⟩
        have Y2 : Bx (w1.alloc zeroO) w1.heap.size #[.int .i64 0, .int .i64 0, .int .i64 0, .int .i64 0, .int .i64 0, .int .i64 0, .string { data := #[] }] 118 := Bx.new
        have n0 : w.heap.size + 1 < w1.heap.size := I.lt
        have n1 : ¬ w.heap.size = w1.heap.size := by omega
        have n2 : ¬ w1.heap.size = w.heap.size := by omega
        have n3 : ¬ w.heap.size + 1 = w1.heap.size := by omega
        have n4 : w.heap.size < w1.heap.size := by omega
        have X2 := X1.alloc (o := zeroO)
        have I2 := I.alloc (o := zeroO)
        have B2 := balloc B1 zeroO
        have hx := X1.cell
        have hf1 := X1.frozen
        have hy := Y2.cell
        have hf2 := Y2.frozen
        cases ok
        · go_wp2_with fail
          go_roundg (gk - 1)
          case measure => omega
          case rel => exact ⟨k + 1, by omega, Lib.hid (by rw [← hR2.out, hres1.out]; rfl), by (repeat' (first | with_reducible assumption | with_reducible exact Below.refl _ _ | (with_reducible refine below_drewN ?_ _) | (with_reducible refine Below.drew ?_) | (with_reducible refine balloc ?_ _) | (with_reducible refine Below.setCell ?_ (by first | exact Nat.le_refl _ | (simp; done) | omega | (simp; omega)) _) | (with_reducible refine bstep ?_ (by with_reducible assumption)))), by (repeat (first | with_reducible exact X2 | with_reducible exact X1 | with_reducible refine Bx.other ?_ n1 | with_reducible refine Bx.alloc ?_)), by (repeat (first | with_reducible exact I2 | with_reducible exact I | with_reducible refine It.other ?_ n3 | with_reducible refine It.alloc ?_))⟩
        · go_wp2_with fail
          have hfin : R = ((⟨4, 0, 0, 0, 0, 0, bl s⟩ : Opd), true) := by rw [← hR2.out, hres1.out]; rfl
          refine bodyPost_ret (v := .tuple #[Ov (⟨4, 0, 0, 0, 0, 0, bl s⟩ : Opd), .bool true]) (by simp [results, Tryz.results48, go_sem, hx, hy, hf1, hf2, n1, n2, n4, Ov]) rfl ⟨by rw [hfin], ?_⟩
          (repeat' (first | with_reducible assumption | with_reducible exact Below.refl _ _ | (with_reducible refine below_drewN ?_ _) | (with_reducible refine Below.drew ?_) | (with_reducible refine balloc ?_ _) | (with_reducible refine Below.setCell ?_ (by first | exact Nat.le_refl _ | (simp; done) | omega | (simp; omega)) _) | (with_reducible refine bstep ?_ (by with_reducible assumption))))
      by_cases h80 : f = 80
      · subst h80
        obtain ⟨r, hr⟩ : ∃ r, Lib.trimSuffix (bl s) ([40, 37, 114, 105, 112, 41] : Str) = r := ⟨_, rfl⟩
        obtain ⟨b, hb⟩ : ∃ r, Lib.hasSuffix (bl s) ([40, 37, 114, 105, 112, 41] : Str) = r := ⟨_, rfl⟩
        obtain ⟨u, hu⟩ : ∃ u, named r = u := ⟨_, rfl⟩
        have hz : (St r).size < 4294967281 := by have := trimSuffix_le (bl s) ([40, 37, 114, 105, 112, 41] : Str); rw [hr, bl_len] at this; rw [St_size]; omega
        have HC := fun w => Lib.hid (CutSuffix_is s ([40, 37, 114, 105, 112, 41] : Str) r b hs hr hb w)
        have HD : ∀ (w : World), Hid _ := fun w => Lib.hid (named_any (St r) hz w)
        rw [bl_St, hu] at HD
        have hT : takeOne 80 (bl s) = (⟨4, 0, 0, 0, 0, 0, r⟩, b && u) := by
          have e : takeOne 80 (bl s) = (⟨4, 0, 0, 0, 0, 0, Lib.trimSuffix (bl s) ([40, 37, 114, 105, 112, 41] : Str)⟩, Lib.hasSuffix (bl s) ([40, 37, 114, 105, 112, 41] : Str) && named (Lib.trimSuffix (bl s) ([40, 37, 114, 105, 112, 41] : Str))) := rfl
          rw [e, hr, hb, hu]
        have hres1 := Lib.hid (take_cons (bl s) 80 ((bl fs).drop (k + 1)) ⟨4, 0, 0, 0, 0, 0, r⟩ _ hT)
        clear hT hr hb hu hz
        go_wp2_with (refine wpList_next rfl (.tmp 15) rfl (w.heap.size + 1) rfl fs k I hk 80 hf h128 ?_; clear I; intro w1 I m)
        have X1 := X0.of_block (m.block _ (by omega))
        have B1 := bmapped B m (by omega)
        have E1 := E.below (balloc B1 zeroO)
        clear X0 B m hx0 hf0
        refine ((HC _).out).mono ?_
        rintro e w2 ⟨rfl, rfl⟩
        have Y2 : Bx (w1.alloc zeroO) w1.heap.size #[.int .i64 0, .int .i64 0, .int .i64 0, .int .i64 0, .int .i64 0, .int .i64 0, .string { data := #[] }] 118 := Bx.new
        have n0 : w.heap.size + 1 < w1.heap.size := I.lt
        have n1 : ¬ w.heap.size = w1.heap.size := by omega
        have n2 : ¬ w1.heap.size = w.heap.size := by omega
        have n3 : ¬ w.heap.size + 1 = w1.heap.size := by omega
        have n4 : w.heap.size < w1.heap.size := by omega
        have X2 := X1.alloc (o := zeroO)
        have I2 := I.alloc (o := zeroO)
        have B2 := balloc B1 zeroO
        have hx := X1.cell
        have hf1 := X1.frozen
        have hy := Y2.cell
        have hf2 := Y2.frozen
        cases b
        · go_wp2_with fail
          go_roundg (gk - 1)
          case measure => omega
          case rel => exact ⟨k + 1, by omega, Lib.hid (by rw [← hR2.out, hres1.out]; rfl), by (repeat' (first | with_reducible assumption | with_reducible exact Below.refl _ _ | (with_reducible refine below_drewN ?_ _) | (with_reducible refine Below.drew ?_) | (with_reducible refine balloc ?_ _) | (with_reducible refine Below.setCell ?_ (by first | exact Nat.le_refl _ | (simp; done) | omega | (simp; omega)) _) | (with_reducible refine bstep ?_ (by with_reducible assumption)))), by (repeat (first | with_reducible exact X2 | with_reducible exact X1 | with_reducible refine Bx.other ?_ n1 | with_reducible refine Bx.alloc ?_)), by (repeat (first | with_reducible exact I2 | with_reducible exact I | with_reducible refine It.other ?_ n3 | with_reducible refine It.alloc ?_))⟩
        · go_wp2_with fail
          refine ((HD _).out).mono ?_
          rintro e w2 ⟨rfl, rfl⟩
          cases u
          · go_wp2_with fail
            go_roundg (gk - 1)
            case measure => omega
            case rel => exact ⟨k + 1, by omega, Lib.hid (by rw [← hR2.out, hres1.out]; rfl), by (repeat' (first | with_reducible assumption | with_reducible exact Below.refl _ _ | (with_reducible refine below_drewN ?_ _) | (with_reducible refine Below.drew ?_) | (with_reducible refine balloc ?_ _) | (with_reducible refine Below.setCell ?_ (by first | exact Nat.le_refl _ | (simp; done) | omega | (simp; omega)) _) | (with_reducible refine bstep ?_ (by with_reducible assumption)))), by (repeat (first | with_reducible exact X2 | with_reducible exact X1 | with_reducible refine Bx.other ?_ n1 | with_reducible refine Bx.alloc ?_)), by (repeat (first | with_reducible exact I2 | with_reducible exact I | with_reducible refine It.other ?_ n3 | with_reducible refine It.alloc ?_))⟩
          · go_wp2_with fail
            have hfin : R = ((⟨4, 0, 0, 0, 0, 0, r⟩ : Opd), true) := by rw [← hR2.out, hres1.out]; rfl
            refine bodyPost_ret (v := .tuple #[Ov (⟨4, 0, 0, 0, 0, 0, r⟩ : Opd), .bool true]) (by simp [results, Tryz.results48, go_sem, hx, hy, hf1, hf2, n1, n2, n4, Ov]) rfl ⟨by rw [hfin], ?_⟩
            (repeat' (first | with_reducible assumption | with_reducible exact Below.refl _ _ | (with_reducible refine below_drewN ?_ _) | (with_reducible refine Below.drew ?_) | (with_reducible refine balloc ?_ _) | (with_reducible refine Below.setCell ?_ (by first | exact Nat.le_refl _ | (simp; done) | omega | (simp; omega)) _) | (with_reducible refine bstep ?_ (by with_reducible assumption))))
      by_cases h42 : f = 42
      · subst h42
        obtain ⟨r, hr⟩ : ∃ r, Lib.trimPrefix (bl s) [42] = r := ⟨_, rfl⟩
        obtain ⟨b, hb⟩ : ∃ r, Lib.hasPrefix (bl s) [42] = r := ⟨_, rfl⟩
        obtain ⟨q, hq2⟩ : ∃ u, wide r = u := ⟨_, rfl⟩
        obtain ⟨o, ok⟩ := q
        have HC := fun w => Lib.hid (CutPrefix_is s [42] r b hr hb w)
        have HD : ∀ (w : World), Hid _ := fun w => Lib.hid (wide_any (St r) w)
        rw [bl_St, hq2] at HD
        have hT : takeOne 42 (bl s) = ({ o with kind := 5 }, ok && b) := by
          have e : takeOne 42 (bl s) = ({ (wide (Lib.trimPrefix (bl s) [42])).1 with kind := 5 }, (wide (Lib.trimPrefix (bl s) [42])).2 && Lib.hasPrefix (bl s) [42]) := rfl
          rw [e, hr, hb, hq2]
        have hres1 := Lib.hid (take_cons (bl s) 42 ((bl fs).drop (k + 1)) { o with kind := 5 } _ hT)
        clear hT hr hb hq2
        go_wp2_with (refine wpList_next rfl (.tmp 15) rfl (w.heap.size + 1) rfl fs k I hk 42 hf h128 ?_; clear I; intro w1 I m)
        have X1 := X0.of_block (m.block _ (by omega))
        have B1 := bmapped B m (by omega)
        have E1 := E.below (balloc B1 zeroO)
        clear X0 B m hx0 hf0
        refine ((HC _).out).mono ?_
        rintro e w2 ⟨rfl, rfl⟩
        have n0' : w.heap.size + 1 < w1.heap.size := I.lt
        have n4 : w.heap.size < w1.heap.size := by omega
        go_wp2_with fail
        refine ((HD _).out).mono ?_
        rintro e w2 ⟨rfl, hb2⟩
        have X2 := X1.alloc.below hb2
        have Y2 := Bx.new.below hb2
        have I2 := I.alloc.below hb2
        have B2 := bstep (balloc B1 _) hb2
        have n0 : w.heap.size + 1 < w1.heap.size := I.lt
        have n1 : ¬ w.heap.size = w1.heap.size := by omega
        have n2 : ¬ w1.heap.size = w.heap.size := by omega
        have n3 : ¬ w.heap.size + 1 = w1.heap.size := by omega
        have n4 : w.heap.size < w1.heap.size := by omega
        clear X1 I B1
        have hx := X2.cell
        have hf1 := X2.frozen
        have hy := Y2.cell
        have hf2 := Y2.frozen
        cases ok
        · go_wp2_with fail
          go_roundg (gk - 1)
          case measure => omega
          case rel => exact ⟨k + 1, by omega, Lib.hid (by rw [← hR2.out, hres1.out]; rfl), by (repeat' (first | with_reducible assumption | with_reducible exact Below.refl _ _ | (with_reducible refine below_drewN ?_ _) | (with_reducible refine Below.drew ?_) | (with_reducible refine balloc ?_ _) | (with_reducible refine Below.setCell ?_ (by first | exact Nat.le_refl _ | (simp; done) | omega | (simp; omega)) _) | (with_reducible refine bstep ?_ (by with_reducible assumption)))), by (repeat (first | with_reducible exact X2 | with_reducible exact X1 | with_reducible refine Bx.other ?_ n1 | with_reducible refine Bx.alloc ?_)), by (repeat (first | with_reducible exact I2 | with_reducible exact I | with_reducible refine It.other ?_ n3 | with_reducible refine It.alloc ?_))⟩
        · cases b
          · go_wp2_with fail
            go_roundg (gk - 1)
            case measure => omega
            case rel => exact ⟨k + 1, by omega, Lib.hid (by rw [← hR2.out, hres1.out]; rfl), by (repeat' (first | with_reducible assumption | with_reducible exact Below.refl _ _ | (with_reducible refine below_drewN ?_ _) | (with_reducible refine Below.drew ?_) | (with_reducible refine balloc ?_ _) | (with_reducible refine Below.setCell ?_ (by first | exact Nat.le_refl _ | (simp; done) | omega | (simp; omega)) _) | (with_reducible refine bstep ?_ (by with_reducible assumption)))), by (repeat (first | with_reducible exact X2 | with_reducible exact X1 | with_reducible refine Bx.other ?_ n1 | with_reducible refine Bx.alloc ?_)), by (repeat (first | with_reducible exact I2 | with_reducible exact I | with_reducible refine It.other ?_ n3 | with_reducible refine It.alloc ?_))⟩
          · go_wp2_with fail
            have hfin : R = (({ o with kind := 5 } : Opd), true) := by rw [← hR2.out, hres1.out]; rfl
            refine bodyPost_ret (v := .tuple #[Ov ({ o with kind := 5 } : Opd), .bool true]) (by simp [results, Tryz.results48, go_sem, hx, hy, hf1, hf2, n1, n2, n4, Ov]) rfl ⟨by rw [hfin], ?_⟩
            (repeat' (first | with_reducible assumption | with_reducible exact Below.refl _ _ | (with_reducible refine below_drewN ?_ _) | (with_reducible refine Below.drew ?_) | (with_reducible refine balloc ?_ _) | (with_reducible refine Below.setCell ?_ (by first | exact Nat.le_refl _ | (simp; done) | omega | (simp; omega)) _) | (with_reducible refine bstep ?_ (by with_reducible assumption))))
      · have hT : takeOne f (bl s) = (Opd.zero, false) := by
          unfold takeOne
          rw [if_neg h73, if_neg h74, if_neg h83, if_neg h82, if_neg h77, if_neg h98, if_neg h119, if_neg h108, if_neg h66, if_neg h76, if_neg h80, if_neg h42]
        have hres1 := Lib.hid (take_cons (bl s) f ((bl fs).drop (k + 1)) Opd.zero _ hT)
        have t73 : ((f.toNat : Int) == 73) = false := u8_beq h73
        have t74 : ((f.toNat : Int) == 74) = false := u8_beq h74
        have t83 : ((f.toNat : Int) == 83) = false := u8_beq h83
        have t82 : ((f.toNat : Int) == 82) = false := u8_beq h82
        have t77 : ((f.toNat : Int) == 77) = false := u8_beq h77
        have t98 : ((f.toNat : Int) == 98) = false := u8_beq h98
        have t119 : ((f.toNat : Int) == 119) = false := u8_beq h119
        have t108 : ((f.toNat : Int) == 108) = false := u8_beq h108
        have t66 : ((f.toNat : Int) == 66) = false := u8_beq h66
        have t76 : ((f.toNat : Int) == 76) = false := u8_beq h76
        have t80 : ((f.toNat : Int) == 80) = false := u8_beq h80
        have t42 : ((f.toNat : Int) == 42) = false := u8_beq h42
        clear hT h73 h74 h83 h82 h77 h98 h119 h108 h66 h76 h80 h42
        go_wp2_with (refine wpList_next rfl (.tmp 15) rfl (w.heap.size + 1) rfl fs k I hk f hf h128 ?_; clear I; intro w1 I m)
        have X1 := X0.of_block (m.block _ (by omega))
        have B1 := bmapped B m (by omega)
        have E1 := E.below (balloc B1 zeroO)
        clear X0 B m hx0 hf0
        have n0 : w.heap.size + 1 < w1.heap.size := I.lt
        have n1 : ¬ w.heap.size = w1.heap.size := by omega
        have n2 : ¬ w1.heap.size = w.heap.size := by omega
        have n3 : ¬ w.heap.size + 1 = w1.heap.size := by omega
        have n4 : w.heap.size < w1.heap.size := by omega
        have hx := X1.cell
        have hf1 := X1.frozen
        go_roundg (gk - 1)
        case measure => omega
        case rel => exact ⟨k + 1, by omega, Lib.hid (by rw [← hR2.out, hres1.out]; rfl), by (repeat' (first | with_reducible assumption | with_reducible exact Below.refl _ _ | (with_reducible refine below_drewN ?_ _) | (with_reducible refine Below.drew ?_) | (with_reducible refine balloc ?_ _) | (with_reducible refine Below.setCell ?_ (by first | exact Nat.le_refl _ | (simp; done) | omega | (simp; omega)) _) | (with_reducible refine bstep ?_ (by with_reducible assumption)))), by (repeat (first | with_reducible exact X1 | with_reducible refine Bx.alloc ?_)), by (repeat (first | with_reducible exact I | with_reducible refine It.alloc ?_))⟩
    · have hx0 := X0.cell
      have hf0 := X0.frozen
      have hfin : R = (Opd.zero, false) := by rw [← hg.out, List.drop_eq_nil_of_le (by rw [bl_len]; omega)]; rfl
      go_wp2_with (refine wpList_over rfl (.tmp 15) rfl (w.heap.size + 1) rfl fs k I hk ?_)
      refine bodyPost_ret (v := .tuple #[Ov Opd.zero, .bool false]) (by simp [results, Tryz.results48, go_sem, hx0, hf0, Ov, Opd.zero]) rfl ⟨by rw [hfin], ?_⟩
      (repeat' (first | with_reducible assumption | with_reducible exact Below.refl _ _ | (with_reducible refine below_drewN ?_ _) | (with_reducible refine Below.drew ?_) | (with_reducible refine balloc ?_ _) | (with_reducible refine Below.setCell ?_ (by first | exact Nat.le_refl _ | (simp; done) | omega | (simp; omega)) _) | (with_reducible refine bstep ?_ (by with_reducible assumption))))
end Go.Proofs.YtfkfdffhajokkaaGreatDoor
