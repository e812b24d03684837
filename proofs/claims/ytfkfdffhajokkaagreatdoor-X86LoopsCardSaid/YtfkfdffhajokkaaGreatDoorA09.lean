/- What package x86's reading of memory by registers answers, a number ahead; conditions: a text shorter than 2^32 less 15 bytes, the library's variables as they begin. -/
import Derived.Test.YtfkfdffhajokkaaGreatDoorA08
namespace Go.Proofs.YtfkfdffhajokkaaGreatDoor
open Go.RowKit X
set_option linter.unusedSimpArgs false
set_option maxHeartbeats 1000000 in
set_option maxRecDepth 100000 in
theorem mem_regN_1 (s : ByteArray) (hs : s.size < 4294967281) (y t0 : Str) (c0 : UInt8) (n : Int) (hn0 : number (c0 :: t0) 32 = (n, true)) (hn1 : ¬ n = 0) (hc : Lib.cut (bl s) [40] = (c0 :: t0, y, true)) (hb : Lib.hasSuffix y [41] = true) (hr : (y.dropLast == ([37, 114, 105, 112] : Str)) = false)
    (h3 : ¬ (splitOn 44 y.dropLast).length = 3) (w : World) (E : Env w) :
    Calls Tryz.prog 79 #[.string s] w fun e w' => e = .returned (.tuple #[Ov (memReg n y.dropLast).1, .bool (memReg n y.dropLast).2]) ∧ Below w.heap.size w w' := by
  have hz : (St y).size < 4294967281 := by have := (cut_le (bl s) [40]).2; rw [hc, bl_len] at this; simp only at this; rw [St_size]; omega
  have hy1 : 1 ≤ y.length := by
    cases y with
    | nil => simp [Lib.hasSuffix] at hb
    | cons a r => simp
  have E1 := E.below (balloc (Below.refl _ _) zeroO)
  have H1 := fun w E => Lib.hid (Cut_is s [40] (c0 :: t0) y true hs hc w E)
  have H2 := fun w => Lib.hid (HasSuffix_is (St y) [41] true hz hb w)
  have hzr : (St y.dropLast).size < 4294967281 := by rw [St_size] at hz ⊢; rw [List.length_dropLast]; omega
  obtain ⟨l, hl⟩ : ∃ l, splitOn 44 y.dropLast = l := ⟨_, rfl⟩
  have hl1 : 1 ≤ l.length := by have := splitOn_ne 44 y.dropLast; rw [hl] at this; exact List.length_pos_iff.2 this
  have hle : ∀ k, (St (l.getD k [])).size < 4294967281 := fun k => by have := getD_le 44 y.dropLast k; rw [hl] at this; rw [St_size] at hzr ⊢; omega
  have H3 := fun w E => Lib.hid (Split_is (St y.dropLast) 44 l l.length hzr hl rfl w E)
  have h0 : l.headD [] = l.getD 0 [] := by cases l <;> rfl
  obtain ⟨p0, hp0⟩ : ∃ p, l.getD 0 [] = p := ⟨_, rfl⟩
  obtain ⟨p1, hp1⟩ : ∃ p, l.getD 1 [] = p := ⟨_, rfl⟩
  obtain ⟨p2, hp2⟩ : ∃ p, l.getD 2 [] = p := ⟨_, rfl⟩
  have hz2 : (St p2).size < 4294967281 := by rw [← hp2]; exact hle 2
  obtain ⟨r, hr1⟩ : ∃ r, register p0 8 = r := ⟨_, rfl⟩
  obtain ⟨x, hx1⟩ : ∃ r, register p1 8 = r := ⟨_, rfl⟩
  obtain ⟨q, hq⟩ : ∃ q, number p2 32 = q := ⟨_, rfl⟩
  obtain ⟨sc, f⟩ := q
  have H4 : ∀ w, Hid _ := fun w => Lib.hid (register_any (St p0) 8 (by simp) w)
  rw [bl_St, hr1] at H4
  have H5 : ∀ w, Hid _ := fun w => Lib.hid (register_any (St p1) 8 (by simp) w)
  rw [bl_St, hx1] at H5
  have H6 : ∀ w E, Hid _ := fun w E => Lib.hid (number_32 (St p2) hz2 w E)
  rw [bl_St, hq] at H6
  have hdl := Lib.hid (dropLast_extract y)
  have he1 : (((St y).extract 0 (y.length - 1)).toList == [37, 114, 105, 112]) = false := by rw [hdl.out, ByteArray.toList_eq]; exact hr
  have hE : memReg n y.dropLast = if l.length = 3 then
      (⟨3, r, 0, n, x, sc, []⟩, f && decide (0 ≤ r) && decide (0 ≤ x) && decide (x ≠ 7) && (sc == 1 || sc == 2 || sc == 4 || sc == 8))
      else (⟨3, r, 0, n, -1, 0, []⟩, decide (l.length = 1) && decide (0 ≤ r)) := by
    unfold memReg; simp only [hl, h0, hp0, hp1, hp2, hr1, hx1, hq]
  rw [hE]
  have hyl : y.length ≤ 4294967281 := by rw [St_size] at hz; omega
  have hll : l.length ≤ 9223372036854775807 := by have := hl; have h9 := splitOn_len 44 y.dropLast; rw [hl, List.length_dropLast] at h9; omega
  have hzh : (St (c0 :: t0)).size < 4294967281 := by have := (cut_le (bl s) [40]).1; rw [hc, bl_len] at this; simp only at this; rw [St_size]; omega
  have H7 : ∀ w E, Hid _ := fun w E => Lib.hid (number_32 (St (c0 :: t0)) hzh w E)
  rw [bl_St, hn0] at H7
  have en : (n == 0) = false := beq_f hn1
  clear hzh
  rw [hl] at h3
  rw [if_neg h3]
  have e3 : ((l.length : Int) == 3) = false := beq_f (by omega)
  have hc0 : (strCells l)[0]? = some (.string (St p0)) := by rw [← hp0]; exact strCells_cell l 0 hl1
  by_cases h1 : l.length = 1
  · have e1 : ((l.length : Int) == 1) = true := beq_iff_eq.2 (by omega)
    rw [decide_eq_true h1, Bool.true_and]
    clear h1 h3 hE hn0 hn1 hr1 hb hc hz hs hr hl hzr hx1 hq hp0 hp1 hp2 hz2 h0 hle
    go_enter Tryz.func79, Tryz.ntmps79
    go_wp2_with fail
    refine ((H1 _ E1).out).mono ?_
    rintro e w1 ⟨rfl, hbw1⟩
    have X0 := (Bx.new (w := w)).below hbw1
    have B1 := bstep (balloc (Below.refl _ w) _) hbw1
    have E2 := E1.below hbw1
    have hx0 := X0.cell
    have hf0 := X0.frozen
    go_wp2_with fail
    refine ((H2 _).out).mono ?_
    rintro e w2 ⟨rfl, rfl⟩
    go_wp2_with fail
    have E3 := E2.below (balloc (Below.refl _ w1) (.cells #[.int .i64 3, .int .i64 0, .int .i64 0, .int .i64 0, .int .i64 (-1), .int .i64 0, .string { data := #[] }] 118))
    refine ((H7 _ E3).out).mono ?_
    rintro e wn ⟨rfl, hbwn⟩
    have Xn0 := X0.alloc.below hbwn
    have XnO := Bx.new.below hbwn
    have Bn := bstep (balloc B1 _) hbwn
    have hlt1 : w.heap.size < w1.heap.size := X0.lt
    have hne : ¬ w.heap.size = w1.heap.size := by have := X0.lt; omega
    have hne' : ¬ w1.heap.size = w.heap.size := by have := X0.lt; omega
    have E4 : Env (wn.setCell ⟨w1.heap.size, 3, none⟩ (.int .i64 n)) := E.below (bset Bn (Nat.le_of_lt hlt1))
    clear hx0 hf0
    have hx0 := Xn0.cell
    have hf0 := Xn0.frozen
    have hxo := XnO.cell
    have hfo := XnO.frozen
    go_wp2_with fail
    rw [hdl.out]
    refine ((H3 _ E4).out).mono ?_
    rintro e w3 ⟨rfl, rfl⟩
    go_wp2_with fail
    refine ((H4 _).out).mono ?_
    rintro e w4 ⟨rfl, hbw4⟩
    have Y0 := (Xn0.other hne).alloc.below hbw4
    have YO := XnO.set.alloc.below hbw4
    have YS := Bx.new.below hbw4
    rw [size_setCell] at YS
    have B4 := bstep (balloc (bset Bn (Nat.le_of_lt hlt1)) _) hbw4
    have hne2 : ¬ wn.heap.size = w1.heap.size := by have := XnO.lt; omega
    have hne3 : ¬ w1.heap.size = wn.heap.size := by have := XnO.lt; omega
    clear hx0 hf0 hxo hfo
    have hy0 := Y0.cell
    have hg0 := Y0.frozen
    have hyo := YO.cell
    have hgo := YO.frozen
    have hys := YS.cell
    go_wp2_with fail
    go_region
    go_wp2_with fail
    refine bodyPost_ret (v := .tuple #[Ov ⟨3, r, 0, n, -1, 0, []⟩, .bool (decide (0 ≤ r))]) (by simp [results, Tryz.results79, go_sem, hy0, hyo, hg0, hgo, hne, hne', Ov]) rfl ⟨rfl, ?_⟩
    (repeat' (first | with_reducible assumption | with_reducible exact Below.refl _ _ | (with_reducible refine below_drewN ?_ _) | (with_reducible refine Below.drew ?_) | (with_reducible refine balloc ?_ _) | (with_reducible refine Below.setCell ?_ (by first | exact Nat.le_refl _ | (simp; done) | omega | (simp; omega)) _) | (with_reducible refine bstep ?_ (by with_reducible assumption))))
  · have e1 : ((l.length : Int) == 1) = false := beq_f (by omega)
    rw [decide_eq_false h1, Bool.false_and]
    clear h1 h3 hE hn0 hn1 hr1 hb hc hz hs hr hl hzr hx1 hq hp0 hp1 hp2 hz2 h0 hle
    go_enter Tryz.func79, Tryz.ntmps79
    go_wp2_with fail
    refine ((H1 _ E1).out).mono ?_
    rintro e w1 ⟨rfl, hbw1⟩
    have X0 := (Bx.new (w := w)).below hbw1
    have B1 := bstep (balloc (Below.refl _ w) _) hbw1
    have E2 := E1.below hbw1
    have hx0 := X0.cell
    have hf0 := X0.frozen
    go_wp2_with fail
    refine ((H2 _).out).mono ?_
    rintro e w2 ⟨rfl, rfl⟩
    go_wp2_with fail
    have E3 := E2.below (balloc (Below.refl _ w1) (.cells #[.int .i64 3, .int .i64 0, .int .i64 0, .int .i64 0, .int .i64 (-1), .int .i64 0, .string { data := #[] }] 118))
    refine ((H7 _ E3).out).mono ?_
    rintro e wn ⟨rfl, hbwn⟩
    have Xn0 := X0.alloc.below hbwn
    have XnO := Bx.new.below hbwn
    have Bn := bstep (balloc B1 _) hbwn
    have hlt1 : w.heap.size < w1.heap.size := X0.lt
    have hne : ¬ w.heap.size = w1.heap.size := by have := X0.lt; omega
    have hne' : ¬ w1.heap.size = w.heap.size := by have := X0.lt; omega
    have E4 : Env (wn.setCell ⟨w1.heap.size, 3, none⟩ (.int .i64 n)) := E.below (bset Bn (Nat.le_of_lt hlt1))
    clear hx0 hf0
    have hx0 := Xn0.cell
    have hf0 := Xn0.frozen
    have hxo := XnO.cell
    have hfo := XnO.frozen
    go_wp2_with fail
    rw [hdl.out]
    refine ((H3 _ E4).out).mono ?_
    rintro e w3 ⟨rfl, rfl⟩
    go_wp2_with fail
    refine ((H4 _).out).mono ?_
    rintro e w4 ⟨rfl, hbw4⟩
    have Y0 := (Xn0.other hne).alloc.below hbw4
    have YO := XnO.set.alloc.below hbw4
    have YS := Bx.new.below hbw4
    rw [size_setCell] at YS
    have B4 := bstep (balloc (bset Bn (Nat.le_of_lt hlt1)) _) hbw4
    have hne2 : ¬ wn.heap.size = w1.heap.size := by have := XnO.lt; omega
    have hne3 : ¬ w1.heap.size = wn.heap.size := by have := XnO.lt; omega
    clear hx0 hf0 hxo hfo
    have hy0 := Y0.cell
    have hg0 := Y0.frozen
    have hyo := YO.cell
    have hgo := YO.frozen
    have hys := YS.cell
    go_wp2_with fail
    go_region
    go_wp2_with fail
    refine bodyPost_ret (v := .tuple #[Ov ⟨3, r, 0, n, -1, 0, []⟩, .bool false]) (by simp [results, Tryz.results79, go_sem, hy0, hyo, hg0, hgo, hne, hne', Ov]) rfl ⟨rfl, ?_⟩
    (repeat' (first | with_reducible assumption | with_reducible exact Below.refl _ _ | (with_reducible refine below_drewN ?_ _) | (with_reducible refine Below.drew ?_) | (with_reducible refine balloc ?_ _) | (with_reducible refine Below.setCell ?_ (by first | exact Nat.le_refl _ | (simp; done) | omega | (simp; omega)) _) | (with_reducible refine bstep ?_ (by with_reducible assumption))))
set_option maxHeartbeats 1000000 in
set_option maxRecDepth 100000 in
theorem mem_regN_3 (s : ByteArray) (hs : s.size < 4294967281) (y t0 : Str) (c0 : UInt8) (n : Int) (hn0 : number (c0 :: t0) 32 = (n, true)) (hn1 : ¬ n = 0) (hc : Lib.cut (bl s) [40] = (c0 :: t0, y, true)) (hb : Lib.hasSuffix y [41] = true) (hr : (y.dropLast == ([37, 114, 105, 112] : Str)) = false)
    (h3 : (splitOn 44 y.dropLast).length = 3) (w : World) (E : Env w) :
    Calls Tryz.prog 79 #[.string s] w fun e w' => e = .returned (.tuple #[Ov (memReg n y.dropLast).1, .bool (memReg n y.dropLast).2]) ∧ Below w.heap.size w w' := by
  have hz : (St y).size < 4294967281 := by have := (cut_le (bl s) [40]).2; rw [hc, bl_len] at this; simp only at this; rw [St_size]; omega
  have hy1 : 1 ≤ y.length := by
    cases y with
    | nil => simp [Lib.hasSuffix] at hb
    | cons a r => simp
  have E1 := E.below (balloc (Below.refl _ _) zeroO)
  have H1 := fun w E => Lib.hid (Cut_is s [40] (c0 :: t0) y true hs hc w E)
  have H2 := fun w => Lib.hid (HasSuffix_is (St y) [41] true hz hb w)
  have hzr : (St y.dropLast).size < 4294967281 := by rw [St_size] at hz ⊢; rw [List.length_dropLast]; omega
  obtain ⟨l, hl⟩ : ∃ l, splitOn 44 y.dropLast = l := ⟨_, rfl⟩
  have hl1 : 1 ≤ l.length := by have := splitOn_ne 44 y.dropLast; rw [hl] at this; exact List.length_pos_iff.2 this
  have hle : ∀ k, (St (l.getD k [])).size < 4294967281 := fun k => by have := getD_le 44 y.dropLast k; rw [hl] at this; rw [St_size] at hzr ⊢; omega
  have H3 := fun w E => Lib.hid (Split_is (St y.dropLast) 44 l l.length hzr hl rfl w E)
  have h0 : l.headD [] = l.getD 0 [] := by cases l <;> rfl
  obtain ⟨p0, hp0⟩ : ∃ p, l.getD 0 [] = p := ⟨_, rfl⟩
  obtain ⟨p1, hp1⟩ : ∃ p, l.getD 1 [] = p := ⟨_, rfl⟩
  obtain ⟨p2, hp2⟩ : ∃ p, l.getD 2 [] = p := ⟨_, rfl⟩
  have hz2 : (St p2).size < 4294967281 := by rw [← hp2]; exact hle 2
  obtain ⟨r, hr1⟩ : ∃ r, register p0 8 = r := ⟨_, rfl⟩
  obtain ⟨x, hx1⟩ : ∃ r, register p1 8 = r := ⟨_, rfl⟩
  obtain ⟨q, hq⟩ : ∃ q, number p2 32 = q := ⟨_, rfl⟩
  obtain ⟨sc, f⟩ := q
  have H4 : ∀ w, Hid _ := fun w => Lib.hid (register_any (St p0) 8 (by simp) w)
  rw [bl_St, hr1] at H4
  have H5 : ∀ w, Hid _ := fun w => Lib.hid (register_any (St p1) 8 (by simp) w)
  rw [bl_St, hx1] at H5
  have H6 : ∀ w E, Hid _ := fun w E => Lib.hid (number_32 (St p2) hz2 w E)
  rw [bl_St, hq] at H6
  have hdl := Lib.hid (dropLast_extract y)
  have he1 : (((St y).extract 0 (y.length - 1)).toList == [37, 114, 105, 112]) = false := by rw [hdl.out, ByteArray.toList_eq]; exact hr
  have hE : memReg n y.dropLast = if l.length = 3 then
      (⟨3, r, 0, n, x, sc, []⟩, f && decide (0 ≤ r) && decide (0 ≤ x) && decide (x ≠ 7) && (sc == 1 || sc == 2 || sc == 4 || sc == 8))
      else (⟨3, r, 0, n, -1, 0, []⟩, decide (l.length = 1) && decide (0 ≤ r)) := by
    unfold memReg; simp only [hl, h0, hp0, hp1, hp2, hr1, hx1, hq]
  rw [hE]
  have hyl : y.length ≤ 4294967281 := by rw [St_size] at hz; omega
  have hll : l.length ≤ 9223372036854775807 := by have := hl; have h9 := splitOn_len 44 y.dropLast; rw [hl, List.length_dropLast] at h9; omega
  have hzh : (St (c0 :: t0)).size < 4294967281 := by have := (cut_le (bl s) [40]).1; rw [hc, bl_len] at this; simp only at this; rw [St_size]; omega
  have H7 : ∀ w E, Hid _ := fun w E => Lib.hid (number_32 (St (c0 :: t0)) hzh w E)
  rw [bl_St, hn0] at H7
  have en : (n == 0) = false := beq_f hn1
  clear hzh
  rw [hl] at h3
  rw [if_pos h3]
  have e3 : ((l.length : Int) == 3) = true := beq_iff_eq.2 (by omega)
  have hc0 : (strCells l)[0]? = some (.string (St p0)) := by rw [← hp0]; exact strCells_cell l 0 hl1
  have hc1 : (strCells l)[1]? = some (.string (St p1)) := by rw [← hp1]; exact strCells_cell l 1 (by omega)
  have hc2 : (strCells l)[2]? = some (.string (St p2)) := by rw [← hp2]; exact strCells_cell l 2 (by omega)
  have l1 : 1 < l.length := by omega
  have l2 : 2 < l.length := by omega
  obtain ⟨G, hG⟩ : ∃ G, (f && decide (0 ≤ r) && decide (0 ≤ x) && decide (x ≠ 7) && (sc == 1 || sc == 2 || sc == 4 || sc == 8)) = G := ⟨_, rfl⟩
  rw [hG]
  have HG := Lib.hid hG
  clear hG
  clear h3 hE hn0 hn1 hr1 hb hc hz hs hr hl hzr hx1 hq hp0 hp1 hp2 hz2 h0 hle
  go_enter Tryz.func79, Tryz.ntmps79
  go_wp2_with fail
  refine ((H1 _ E1).out).mono ?_
  rintro e w1 ⟨rfl, hbw1⟩
  have X0 := (Bx.new (w := w)).below hbw1
  have B1 := bstep (balloc (Below.refl _ w) _) hbw1
  have E2 := E1.below hbw1
  have hx0 := X0.cell
  have hf0 := X0.frozen
  go_wp2_with fail
  refine ((H2 _).out).mono ?_
  rintro e w2 ⟨rfl, rfl⟩
  go_wp2_with fail
  have E3 := E2.below (balloc (Below.refl _ w1) (.cells #[.int .i64 3, .int .i64 0, .int .i64 0, .int .i64 0, .int .i64 (-1), .int .i64 0, .string { data := #[] }] 118))
  refine ((H7 _ E3).out).mono ?_
  rintro e wn ⟨rfl, hbwn⟩
  have Xn0 := X0.alloc.below hbwn
  have XnO := Bx.new.below hbwn
  have Bn := bstep (balloc B1 _) hbwn
  have hlt1 : w.heap.size < w1.heap.size := X0.lt
  have hne : ¬ w.heap.size = w1.heap.size := by have := X0.lt; omega
  have hne' : ¬ w1.heap.size = w.heap.size := by have := X0.lt; omega
  have E4 : Env (wn.setCell ⟨w1.heap.size, 3, none⟩ (.int .i64 n)) := E.below (bset Bn (Nat.le_of_lt hlt1))
  clear hx0 hf0
  have hx0 := Xn0.cell
  have hf0 := Xn0.frozen
  have hxo := XnO.cell
  have hfo := XnO.frozen
  go_wp2_with fail
  rw [hdl.out]
  refine ((H3 _ E4).out).mono ?_
  rintro e w3 ⟨rfl, rfl⟩
  go_wp2_with fail
  refine ((H4 _).out).mono ?_
  rintro e w4 ⟨rfl, hbw4⟩
  have Y0 := (Xn0.other hne).alloc.below hbw4
  have YO := XnO.set.alloc.below hbw4
  have YS := Bx.new.below hbw4
  rw [size_setCell] at YS
  have B4 := bstep (balloc (bset Bn (Nat.le_of_lt hlt1)) _) hbw4
  have hne2 : ¬ wn.heap.size = w1.heap.size := by have := XnO.lt; omega
  have hne3 : ¬ w1.heap.size = wn.heap.size := by have := XnO.lt; omega
  clear hx0 hf0 hxo hfo
  have hy0 := Y0.cell
  have hg0 := Y0.frozen
  have hyo := YO.cell
  have hgo := YO.frozen
  have hys := YS.cell
  go_wp2_with fail
  refine ((H5 _).out).mono ?_
  rintro e w5 ⟨rfl, hbw5⟩
  have Z0 := (Y0.other hne).below hbw5
  have ZO := YO.set.below hbw5
  have ZS := (YS.other hne2).below hbw5
  have B5 := bstep (bset B4 (Nat.le_of_lt hlt1)) hbw5
  clear hy0 hg0 hyo hgo hys
  have hy0 := Z0.cell
  have hg0 := Z0.frozen
  have hyo := ZO.cell
  have hgo := ZO.frozen
  have hys := ZS.cell
  have E5 : Env (w5.setCell ⟨w1.heap.size, 4, none⟩ (.int .i64 x)) := E.below (bset B5 (Nat.le_of_lt hlt1))
  go_wp2_with fail
  refine ((H6 _ E5).out).mono ?_
  rintro e w6 ⟨rfl, hbw6⟩
  have V0 := (Z0.other hne).below hbw6
  have VO := ZO.set.below hbw6
  have B6 := bstep (bset B5 (Nat.le_of_lt hlt1)) hbw6
  clear hy0 hg0 hyo hgo hys
  have hy0 := V0.cell
  have hg0 := V0.frozen
  have hyo := VO.cell
  have hgo := VO.frozen
  cases f
  · go_wp2_with fail
    refine bodyPost_ret (v := .tuple #[Ov ⟨3, r, 0, n, x, sc, []⟩, .bool false]) (by simp [results, Tryz.results79, go_sem, hy0, hyo, hg0, hgo, hne, hne', Ov]) rfl ⟨ret_o (by rw [← HG.out]; simp), ?_⟩
    (repeat' (first | with_reducible assumption | with_reducible exact Below.refl _ _ | (with_reducible refine below_drewN ?_ _) | (with_reducible refine Below.drew ?_) | (with_reducible refine balloc ?_ _) | (with_reducible refine Below.setCell ?_ (by first | exact Nat.le_refl _ | (simp; done) | omega | (simp; omega)) _) | (with_reducible refine bstep ?_ (by with_reducible assumption))))
  cases hg1 : decide (0 ≤ r)
  · go_wp2_with fail
    refine bodyPost_ret (v := .tuple #[Ov ⟨3, r, 0, n, x, sc, []⟩, .bool false]) (by simp [results, Tryz.results79, go_sem, hy0, hyo, hg0, hgo, hne, hne', Ov]) rfl ⟨ret_o (by rw [← HG.out]; simp [hg1]), ?_⟩
    (repeat' (first | with_reducible assumption | with_reducible exact Below.refl _ _ | (with_reducible refine below_drewN ?_ _) | (with_reducible refine Below.drew ?_) | (with_reducible refine balloc ?_ _) | (with_reducible refine Below.setCell ?_ (by first | exact Nat.le_refl _ | (simp; done) | omega | (simp; omega)) _) | (with_reducible refine bstep ?_ (by with_reducible assumption))))
  cases hg2 : decide (0 ≤ x)
  · go_wp2_with fail
    refine bodyPost_ret (v := .tuple #[Ov ⟨3, r, 0, n, x, sc, []⟩, .bool false]) (by simp [results, Tryz.results79, go_sem, hy0, hyo, hg0, hgo, hne, hne', Ov]) rfl ⟨ret_o (by rw [← HG.out]; simp [hg2]), ?_⟩
    (repeat' (first | with_reducible assumption | with_reducible exact Below.refl _ _ | (with_reducible refine below_drewN ?_ _) | (with_reducible refine Below.drew ?_) | (with_reducible refine balloc ?_ _) | (with_reducible refine Below.setCell ?_ (by first | exact Nat.le_refl _ | (simp; done) | omega | (simp; omega)) _) | (with_reducible refine bstep ?_ (by with_reducible assumption))))
  cases hg3 : (x != 7)
  · go_wp2_with fail
    refine bodyPost_ret (v := .tuple #[Ov ⟨3, r, 0, n, x, sc, []⟩, .bool false]) (by simp [results, Tryz.results79, go_sem, hy0, hyo, hg0, hgo, hne, hne', Ov]) rfl ⟨ret_o (by rw [← HG.out]; have h := (bne_eq_false_iff_eq).1 hg3; simp [h]), ?_⟩
    (repeat' (first | with_reducible assumption | with_reducible exact Below.refl _ _ | (with_reducible refine below_drewN ?_ _) | (with_reducible refine Below.drew ?_) | (with_reducible refine balloc ?_ _) | (with_reducible refine Below.setCell ?_ (by first | exact Nat.le_refl _ | (simp; done) | omega | (simp; omega)) _) | (with_reducible refine bstep ?_ (by with_reducible assumption))))
  have hx7 : ¬ x = 7 := bne_iff_ne.1 hg3
  cases hg4 : (sc == 1)
  rotate_left
  · have HG' : Hid (G = true) := Lib.hid (by rw [← HG.out]; simp [hg1, hg2, hx7, hg4])
    clear hx7
    go_wp2_with fail
    refine bodyPost_ret (v := .tuple #[Ov ⟨3, r, 0, n, x, sc, []⟩, .bool true]) (by simp [results, Tryz.results79, go_sem, hy0, hyo, hg0, hgo, hne, hne', Ov]) rfl ⟨ret_o (by exact HG'.out.symm), ?_⟩
    (repeat' (first | with_reducible assumption | with_reducible exact Below.refl _ _ | (with_reducible refine below_drewN ?_ _) | (with_reducible refine Below.drew ?_) | (with_reducible refine balloc ?_ _) | (with_reducible refine Below.setCell ?_ (by first | exact Nat.le_refl _ | (simp; done) | omega | (simp; omega)) _) | (with_reducible refine bstep ?_ (by with_reducible assumption))))
  cases hg5 : (sc == 2)
  rotate_left
  · have HG' : Hid (G = true) := Lib.hid (by rw [← HG.out]; simp [hg1, hg2, hx7, hg4, hg5])
    clear hx7
    go_wp2_with fail
    refine bodyPost_ret (v := .tuple #[Ov ⟨3, r, 0, n, x, sc, []⟩, .bool true]) (by simp [results, Tryz.results79, go_sem, hy0, hyo, hg0, hgo, hne, hne', Ov]) rfl ⟨ret_o (by exact HG'.out.symm), ?_⟩
    (repeat' (first | with_reducible assumption | with_reducible exact Below.refl _ _ | (with_reducible refine below_drewN ?_ _) | (with_reducible refine Below.drew ?_) | (with_reducible refine balloc ?_ _) | (with_reducible refine Below.setCell ?_ (by first | exact Nat.le_refl _ | (simp; done) | omega | (simp; omega)) _) | (with_reducible refine bstep ?_ (by with_reducible assumption))))
  cases hg6 : (sc == 4)
  rotate_left
  · have HG' : Hid (G = true) := Lib.hid (by rw [← HG.out]; simp [hg1, hg2, hx7, hg4, hg5, hg6])
    clear hx7
    go_wp2_with fail
    refine bodyPost_ret (v := .tuple #[Ov ⟨3, r, 0, n, x, sc, []⟩, .bool true]) (by simp [results, Tryz.results79, go_sem, hy0, hyo, hg0, hgo, hne, hne', Ov]) rfl ⟨ret_o (by exact HG'.out.symm), ?_⟩
    (repeat' (first | with_reducible assumption | with_reducible exact Below.refl _ _ | (with_reducible refine below_drewN ?_ _) | (with_reducible refine Below.drew ?_) | (with_reducible refine balloc ?_ _) | (with_reducible refine Below.setCell ?_ (by first | exact Nat.le_refl _ | (simp; done) | omega | (simp; omega)) _) | (with_reducible refine bstep ?_ (by with_reducible assumption))))
  cases hg7 : (sc == 8)
  rotate_left
  · have HG' : Hid (G = true) := Lib.hid (by rw [← HG.out]; simp [hg1, hg2, hx7, hg4, hg5, hg6, hg7])
    clear hx7
    go_wp2_with fail
    refine bodyPost_ret (v := .tuple #[Ov ⟨3, r, 0, n, x, sc, []⟩, .bool true]) (by simp [results, Tryz.results79, go_sem, hy0, hyo, hg0, hgo, hne, hne', Ov]) rfl ⟨ret_o (by exact HG'.out.symm), ?_⟩
    (repeat' (first | with_reducible assumption | with_reducible exact Below.refl _ _ | (with_reducible refine below_drewN ?_ _) | (with_reducible refine Below.drew ?_) | (with_reducible refine balloc ?_ _) | (with_reducible refine Below.setCell ?_ (by first | exact Nat.le_refl _ | (simp; done) | omega | (simp; omega)) _) | (with_reducible refine bstep ?_ (by with_reducible assumption))))
  have HG' : Hid (G = false) := Lib.hid (by rw [← HG.out]; simp [hg4, hg5, hg6, hg7])
  clear hx7
  go_wp2_with fail
  refine bodyPost_ret (v := .tuple #[Ov ⟨3, r, 0, n, x, sc, []⟩, .bool false]) (by simp [results, Tryz.results79, go_sem, hy0, hyo, hg0, hgo, hne, hne', Ov]) rfl ⟨ret_o (by exact HG'.out.symm), ?_⟩
  (repeat' (first | with_reducible assumption | with_reducible exact Below.refl _ _ | (with_reducible refine below_drewN ?_ _) | (with_reducible refine Below.drew ?_) | (with_reducible refine balloc ?_ _) | (with_reducible refine Below.setCell ?_ (by first | exact Nat.le_refl _ | (simp; done) | omega | (simp; omega)) _) | (with_reducible refine bstep ?_ (by with_reducible assumption))))
end Go.Proofs.YtfkfdffhajokkaaGreatDoor
/- What package x86's reading of memory, and of an operand, answers; conditions: a text shorter than 2^32 less 15 bytes, the library's variables as they begin. -/
namespace Go.Proofs.YtfkfdffhajokkaaGreatDoor
open Go.RowKit X
set_option linter.unusedSimpArgs false
set_option maxHeartbeats 1000000 in
set_option maxRecDepth 100000 in
theorem mem_badn (s : ByteArray) (hs : s.size < 4294967281) (y t0 : Str) (c0 : UInt8) (n : Int) (f : Bool) (hn0 : number (c0 :: t0) 32 = (n, f)) (hn1 : f = false ∨ n = 0) (hc : Lib.cut (bl s) [40] = (c0 :: t0, y, true)) (hb : Lib.hasSuffix y [41] = true) (hr : (y.dropLast == ([37, 114, 105, 112] : Str)) = false)
    (w : World) (E : Env w) :
    Calls Tryz.prog 79 #[.string s] w fun e w' => e = .returned (.tuple #[Ov ⟨3, 0, 0, 0, -1, 0, []⟩, .bool false]) ∧ Below w.heap.size w w' := by
  have hz : (St y).size < 4294967281 := by have := (cut_le (bl s) [40]).2; rw [hc, bl_len] at this; simp only at this; rw [St_size]; omega
  have hy1 : 1 ≤ y.length := by
    cases y with
    | nil => simp [Lib.hasSuffix] at hb
    | cons a r => simp
  have E1 := E.below (balloc (Below.refl _ _) zeroO)
  have H1 := fun w E => Lib.hid (Cut_is s [40] (c0 :: t0) y true hs hc w E)
  have H2 := fun w => Lib.hid (HasSuffix_is (St y) [41] true hz hb w)
  have hdl := Lib.hid (dropLast_extract y)
  have he1 : (((St y).extract 0 (y.length - 1)).toList == [37, 114, 105, 112]) = false := by rw [hdl.out, ByteArray.toList_eq]; exact hr
  have hyl : y.length ≤ 4294967281 := by rw [St_size] at hz; omega
  have hzh : (St (c0 :: t0)).size < 4294967281 := by have := (cut_le (bl s) [40]).1; rw [hc, bl_len] at this; simp only at this; rw [St_size]; omega
  have H7 : ∀ w E, Hid _ := fun w E => Lib.hid (number_32 (St (c0 :: t0)) hzh w E)
  rw [bl_St, hn0] at H7
  clear hzh hb hc hz hs hr hn0
  have key : ∀ (_ : f = false ∨ f = true ∧ n = 0), Calls Tryz.prog 79 #[.string s] w fun e w' => e = .returned (.tuple #[Ov ⟨3, 0, 0, 0, -1, 0, []⟩, .bool false]) ∧ Below w.heap.size w w' := by
    intro hh
    rcases hh with rfl | ⟨rfl, rfl⟩
    all_goals
      clear hn1
      go_enter Tryz.func79, Tryz.ntmps79
      go_wp2_with fail
      refine ((H1 _ E1).out).mono ?_
      rintro e w1 ⟨rfl, hbw1⟩
      have X0 := (Bx.new (w := w)).below hbw1
      have B1 := bstep (balloc (Below.refl _ w) _) hbw1
      have E2 := E1.below hbw1
      have hx0 := X0.cell
      have hf0 := X0.frozen
      go_wp2_with fail
      refine ((H2 _).out).mono ?_
      rintro e w2 ⟨rfl, rfl⟩
      go_wp2_with fail
      have E3 := E2.below (balloc (Below.refl _ w1) (.cells #[.int .i64 3, .int .i64 0, .int .i64 0, .int .i64 0, .int .i64 (-1), .int .i64 0, .string { data := #[] }] 118))
      refine ((H7 _ E3).out).mono ?_
      rintro e wn ⟨rfl, hbwn⟩
      have Xn0 := X0.alloc.below hbwn
      have XnO := Bx.new.below hbwn
      have Bn := bstep (balloc B1 _) hbwn
      have hlt1 : w.heap.size < w1.heap.size := X0.lt
      have hne : ¬ w.heap.size = w1.heap.size := by have := X0.lt; omega
      have hne' : ¬ w1.heap.size = w.heap.size := by have := X0.lt; omega
      clear hx0 hf0
      have hx0 := Xn0.cell
      have hf0 := Xn0.frozen
      have hxo := XnO.cell
      have hfo := XnO.frozen
      go_wp2_with fail
      refine bodyPost_ret (v := .tuple #[Ov ⟨3, 0, 0, 0, -1, 0, []⟩, .bool false]) (by simp [results, Tryz.results79, go_sem, hx0, hxo, hf0, hfo, hne, hne', Ov]) rfl ⟨rfl, ?_⟩
      (repeat' (first | with_reducible assumption | with_reducible exact Below.refl _ _ | (with_reducible refine below_drewN ?_ _) | (with_reducible refine Below.drew ?_) | (with_reducible refine balloc ?_ _) | (with_reducible refine Below.setCell ?_ (by first | exact Nat.le_refl _ | (simp; done) | omega | (simp; omega)) _) | (with_reducible refine bstep ?_ (by with_reducible assumption))))
  rcases hn1 with h | h
  · exact key (.inl h)
  · cases f
    · exact key (.inl rfl)
    · exact key (.inr ⟨rfl, h⟩)
theorem memory_any (s : ByteArray) (hs : s.size < 4294967281) (w : World) (E : Env w) :
    Calls Tryz.prog 79 #[.string s] w fun e w' => e = .returned (.tuple #[Ov (memory (bl s)).1, .bool (memory (bl s)).2]) ∧ Below w.heap.size w w' := by
  obtain ⟨c, hc⟩ : ∃ c, Lib.cut (bl s) [40] = c := ⟨_, rfl⟩
  obtain ⟨h, y, b⟩ := c
  by_cases hbad : b = false ∨ Lib.hasSuffix y [41] = false
  · have : memory (bl s) = (Opd.zero, false) := by unfold memory; rw [hc]; rcases hbad with rfl | h <;> simp [*]
    rw [this]
    exact mem_bad1 s hs h y b hc hbad w E
  · obtain ⟨rfl, hb⟩ : b = true ∧ Lib.hasSuffix y [41] = true := by
      cases b <;> cases hh : Lib.hasSuffix y [41] <;> simp [hh] at hbad ⊢
    by_cases hr : y.dropLast = ([37, 114, 105, 112] : Str)
    · have : memory (bl s) = memVar h := by unfold memory; rw [hc]; simp [hb, hr]
      rw [this]
      exact mem_var s hs h y hc hb hr w E
    · have hr' : (y.dropLast == ([37, 114, 105, 112] : Str)) = false := by rw [Bool.eq_false_iff, ne_eq, beq_iff_eq]; exact hr
      cases h with
      | nil =>
        have : memory (bl s) = memReg 0 y.dropLast := by unfold memory; rw [hc]; simp [hb, hr']
        rw [this]
        by_cases h3 : (splitOn 44 y.dropLast).length = 3
        · exact mem_reg0_3 s hs y [] 0 ⟨rfl, rfl⟩ hc hb hr' h3 w E
        · exact mem_reg0_1 s hs y [] 0 ⟨rfl, rfl⟩ hc hb hr' h3 w E
      | cons c0 t0 =>
        obtain ⟨q, hq⟩ : ∃ q, number (c0 :: t0) 32 = q := ⟨_, rfl⟩
        obtain ⟨n, f⟩ := q
        by_cases hn : f = false ∨ n = 0
        · have : memory (bl s) = (⟨3, 0, 0, 0, -1, 0, []⟩, false) := by
            unfold memory; rw [hc]
            rcases hn with rfl | rfl <;> simp [hb, hr', hq]
          rw [this]
          exact mem_badn s hs y t0 c0 n f hq hn hc hb hr' w E
        · obtain ⟨rfl, hn1⟩ : f = true ∧ ¬ n = 0 := by cases f <;> simp at hn ⊢; exact hn
          have : memory (bl s) = memReg n y.dropLast := by unfold memory; rw [hc]; simp [hb, hr', hq, hn1]
          rw [this]
          by_cases h3 : (splitOn 44 y.dropLast).length = 3
          · exact mem_regN_3 s hs y t0 c0 n hq hn1 hc hb hr' h3 w E
          · exact mem_regN_1 s hs y t0 c0 n hq hn1 hc hb hr' h3 w E
end Go.Proofs.YtfkfdffhajokkaaGreatDoor
