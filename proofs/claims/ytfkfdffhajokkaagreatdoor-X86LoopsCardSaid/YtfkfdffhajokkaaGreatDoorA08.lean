/- What package x86's reading of memory by registers answers; conditions: a text shorter than 2^32 less 15 bytes, the library's variables as they begin. -/
import Derived.Test.YtfkfdffhajokkaaGreatDoorA07
import Derived.Test.YtfkfdffhajokkaaGreatDoorA06
namespace Go.Proofs.YtfkfdffhajokkaaGreatDoor
open Go.RowKit X
set_option linter.unusedSimpArgs false

theorem ret_o {o : Value} {a b : Bool} (h : a = b) : Ending.returned (.tuple #[o, .bool a]) = .returned (.tuple #[o, .bool b]) := by rw [h]
theorem splitOn_len (c : UInt8) : ∀ s : Str, (splitOn c s).length ≤ s.length + 1
  | [] => by simp [splitOn]
  | b :: r => by
    have ih := splitOn_len c r
    unfold splitOn
    split
    · simp; omega
    · split
      · simp
      · rename_i e; rw [e] at ih; simp at ih ⊢; omega
set_option maxHeartbeats 1000000 in
set_option maxRecDepth 100000 in
theorem mem_reg0_1 (s : ByteArray) (hs : s.size < 4294967281) (y hd : Str) (n : Int) (hhd : hd = [] ∧ n = 0) (hc : Lib.cut (bl s) [40] = (hd, y, true)) (hb : Lib.hasSuffix y [41] = true) (hr : (y.dropLast == ([37, 114, 105, 112] : Str)) = false)
    (h3 : ¬ (splitOn 44 y.dropLast).length = 3) (w : World) (E : Env w) :
    Calls Tryz.prog 79 #[.string s] w fun e w' => e = .returned (.tuple #[Ov (memReg n y.dropLast).1, .bool (memReg n y.dropLast).2]) ∧ Below w.heap.size w w' := by
  obtain ⟨rfl, rfl⟩ := hhd
  have hz : (St y).size < 4294967281 := by have := (cut_le (bl s) [40]).2; rw [hc, bl_len] at this; simp only at this; rw [St_size]; omega
  have hy1 : 1 ≤ y.length := by
    cases y with
    | nil => simp [Lib.hasSuffix] at hb
    | cons a r => simp
  have E1 := E.below (balloc (Below.refl _ _) zeroO)
  have H1 := fun w E => Lib.hid (Cut_is s [40] [] y true hs hc w E)
  have H2 := fun w => Lib.hid (HasSuffix_is (St y) [41] true hz hb w)
  have hzr : (St y.dropLast).size < 4294967281 := by rw [St_size] at hz ⊢; rw [List.length_dropLast]; omega
  obtain ⟨l, hl⟩ : ∃ l, splitOn 44 y.dropLast = l := ⟨_, rfl⟩
  have hl1 : 1 ≤ l.length := by have := splitOn_ne 44 y.dropLast; rw [hl] at this; exact List.length_pos_iff.2 this
  have hle : ∀ k, (St (l.getD k [])).size < 4294967281 := fun k => by have := getD_le 44 y.dropLast k; rw [hl] at this; rw [St_size] at hzr ⊢; omega
  have H3 := fun w E => Lib.hid (Split_is (St y.dropLast) 44 l l.length hzr hl rfl w E)
  have h0 : l.headD [] = l.getD 0 [] := by cases l <;> rfl
  obtain ⟨p0, hp0⟩ : ∃ p, l.getD 0 [] = p := ⟨_, rfl⟩
  obtain ⟨p1, hp1⟩ : ∃ p, l.getD 1 [] = p := ⟨_, rfl⟩
  obtain ⟨p2, hp2⟩ : ∃ p, l.getD 2 [] = p := ⟨_, rfl⟩
  have hz2 : (St p2).size < 4294967281 := by rw [← hp2]; exact hle 2
  obtain ⟨r, hr1⟩ : ∃ r, register p0 8 = r := ⟨_, rfl⟩
  obtain ⟨x, hx1⟩ : ∃ r, register p1 8 = r := ⟨_, rfl⟩
  obtain ⟨q, hq⟩ : ∃ q, number p2 32 = q := ⟨_, rfl⟩
  obtain ⟨sc, f⟩ := q
  have H4 : ∀ w, Hid _ := fun w => Lib.hid (register_any (St p0) 8 (by simp) w)
  rw [bl_St, hr1] at H4
  have H5 : ∀ w, Hid _ := fun w => Lib.hid (register_any (St p1) 8 (by simp) w)
  rw [bl_St, hx1] at H5
  have H6 : ∀ w E, Hid _ := fun w E => Lib.hid (number_32 (St p2) hz2 w E)
  rw [bl_St, hq] at H6
  have hdl := Lib.hid (dropLast_extract y)
  have he1 : (((St y).extract 0 (y.length - 1)).toList == [37, 114, 105, 112]) = false := by rw [hdl.out, ByteArray.toList_eq]; exact hr
  have hE : memReg 0 y.dropLast = if l.length = 3 then
      (⟨3, r, 0, 0, x, sc, []⟩, f && decide (0 ≤ r) && decide (0 ≤ x) && decide (x ≠ 7) && (sc == 1 || sc == 2 || sc == 4 || sc == 8))
      else (⟨3, r, 0, 0, -1, 0, []⟩, decide (l.length = 1) && decide (0 ≤ r)) := by
    unfold memReg; simp only [hl, h0, hp0, hp1, hp2, hr1, hx1, hq]
  rw [hE]
  have hyl : y.length ≤ 4294967281 := by rw [St_size] at hz; omega
  have hll : l.length ≤ 9223372036854775807 := by have := hl; have h9 := splitOn_len 44 y.dropLast; rw [hl, List.length_dropLast] at h9; omega
  rw [hl] at h3
  rw [if_neg h3]
  have e3 : ((l.length : Int) == 3) = false := beq_f (by omega)
  have hc0 : (strCells l)[0]? = some (.string (St p0)) := by rw [← hp0]; exact strCells_cell l 0 hl1
  by_cases h1 : l.length = 1
  · have e1 : ((l.length : Int) == 1) = true := beq_iff_eq.2 (by omega)
    rw [decide_eq_true h1, Bool.true_and]
    clear h1 h3 hE hr1 hb hc hz hs hr hl hzr hx1 hq hp0 hp1 hp2 hz2 h0 hle
    go_enter Tryz.func79, Tryz.ntmps79
    go_wp2_with fail
    refine ((H1 _ E1).out).mono ?_
    rintro e w1 ⟨rfl, hbw1⟩
    have X0 := (Bx.new (w := w)).below hbw1
    have B1 := bstep (balloc (Below.refl _ w) _) hbw1
    have E2 := E1.below hbw1
    have hx0 := X0.cell
    have hf0 := X0.frozen
    go_wp2_with fail
    refine ((H2 _).out).mono ?_
    rintro e w2 ⟨rfl, rfl⟩
    go_wp2_with fail
    rw [hdl.out]
    have E3 := E2.below (balloc (Below.refl _ w1) (.cells #[.int .i64 3, .int .i64 0, .int .i64 0, .int .i64 0, .int .i64 (-1), .int .i64 0, .string { data := #[] }] 118))
    refine ((H3 _ E3).out).mono ?_
    rintro e w3 ⟨rfl, rfl⟩
    go_wp2_with fail
    refine ((H4 _).out).mono ?_
    rintro e w4 ⟨rfl, hbw4⟩
    have Y0 := X0.alloc.alloc.below hbw4
    have YO := Bx.new.alloc.below hbw4
    have YS := Bx.new.below hbw4
    rw [World.size_alloc] at YS
    have B4 := bstep (balloc (balloc B1 _) _) hbw4
    have hy0 := Y0.cell
    have hg0 := Y0.frozen
    have hyo := YO.cell
    have hgo := YO.frozen
    have hys := YS.cell
    clear hx0 hf0
    have hlt1 : w.heap.size < w1.heap.size := X0.lt
    have hne : ¬ w.heap.size = w1.heap.size := by have := X0.lt; omega
    have hne' : ¬ w1.heap.size = w.heap.size := by have := X0.lt; omega
    go_wp2_with fail
    go_region
    go_wp2_with fail
    refine bodyPost_ret (v := .tuple #[Ov ⟨3, r, 0, 0, -1, 0, []⟩, .bool (decide (0 ≤ r))]) (by simp [results, Tryz.results79, go_sem, hy0, hyo, hg0, hgo, hne, hne', Ov]) rfl ⟨rfl, ?_⟩
    (repeat' (first | with_reducible assumption | with_reducible exact Below.refl _ _ | (with_reducible refine below_drewN ?_ _) | (with_reducible refine Below.drew ?_) | (with_reducible refine balloc ?_ _) | (with_reducible refine Below.setCell ?_ (by first | exact Nat.le_refl _ | (simp; done) | omega | (simp; omega)) _) | (with_reducible refine bstep ?_ (by with_reducible assumption))))
  · have e1 : ((l.length : Int) == 1) = false := beq_f (by omega)
    rw [decide_eq_false h1, Bool.false_and]
    clear h1 h3 hE hr1 hb hc hz hs hr hl hzr hx1 hq hp0 hp1 hp2 hz2 h0 hle
    go_enter Tryz.func79, Tryz.ntmps79
    go_wp2_with fail
    refine ((H1 _ E1).out).mono ?_
    rintro e w1 ⟨rfl, hbw1⟩
    have X0 := (Bx.new (w := w)).below hbw1
    have B1 := bstep (balloc (Below.refl _ w) _) hbw1
    have E2 := E1.below hbw1
    have hx0 := X0.cell
    have hf0 := X0.frozen
    go_wp2_with fail
    refine ((H2 _).out).mono ?_
    rintro e w2 ⟨rfl, rfl⟩
    go_wp2_with fail
    rw [hdl.out]
    have E3 := E2.below (balloc (Below.refl _ w1) (.cells #[.int .i64 3, .int .i64 0, .int .i64 0, .int .i64 0, .int .i64 (-1), .int .i64 0, .string { data := #[] }] 118))
    refine ((H3 _ E3).out).mono ?_
    rintro e w3 ⟨rfl, rfl⟩
    go_wp2_with fail
    refine ((H4 _).out).mono ?_
    rintro e w4 ⟨rfl, hbw4⟩
    have Y0 := X0.alloc.alloc.below hbw4
    have YO := Bx.new.alloc.below hbw4
    have YS := Bx.new.below hbw4
    rw [World.size_alloc] at YS
    have B4 := bstep (balloc (balloc B1 _) _) hbw4
    have hy0 := Y0.cell
    have hg0 := Y0.frozen
    have hyo := YO.cell
    have hgo := YO.frozen
    have hys := YS.cell
    clear hx0 hf0
    have hlt1 : w.heap.size < w1.heap.size := X0.lt
    have hne : ¬ w.heap.size = w1.heap.size := by have := X0.lt; omega
    have hne' : ¬ w1.heap.size = w.heap.size := by have := X0.lt; omega
    go_wp2_with fail
    go_region
    go_wp2_with fail
    refine bodyPost_ret (v := .tuple #[Ov ⟨3, r, 0, 0, -1, 0, []⟩, .bool false]) (by simp [results, Tryz.results79, go_sem, hy0, hyo, hg0, hgo, hne, hne', Ov]) rfl ⟨rfl, ?_⟩
    (repeat' (first | with_reducible assumption | with_reducible exact Below.refl _ _ | (with_reducible refine below_drewN ?_ _) | (with_reducible refine Below.drew ?_) | (with_reducible refine balloc ?_ _) | (with_reducible refine Below.setCell ?_ (by first | exact Nat.le_refl _ | (simp; done) | omega | (simp; omega)) _) | (with_reducible refine bstep ?_ (by with_reducible assumption))))
set_option maxHeartbeats 1000000 in
set_option maxRecDepth 100000 in
theorem mem_reg0_3 (s : ByteArray) (hs : s.size < 4294967281) (y hd : Str) (n : Int) (hhd : hd = [] ∧ n = 0) (hc : Lib.cut (bl s) [40] = (hd, y, true)) (hb : Lib.hasSuffix y [41] = true) (hr : (y.dropLast == ([37, 114, 105, 112] : Str)) = false)
    (h3 : (splitOn 44 y.dropLast).length = 3) (w : World) (E : Env w) :
    Calls Tryz.prog 79 #[.string s] w fun e w' => e = .returned (.tuple #[Ov (memReg n y.dropLast).1, .bool (memReg n y.dropLast).2]) ∧ Below w.heap.size w w' := by
  obtain ⟨rfl, rfl⟩ := hhd
  have hz : (St y).size < 4294967281 := by have := (cut_le (bl s) [40]).2; rw [hc, bl_len] at this; simp only at this; rw [St_size]; omega
  have hy1 : 1 ≤ y.length := by
    cases y with
    | nil => simp [Lib.hasSuffix] at hb
    | cons a r => simp
  have E1 := E.below (balloc (Below.refl _ _) zeroO)
  have H1 := fun w E => Lib.hid (Cut_is s [40] [] y true hs hc w E)
  have H2 := fun w => Lib.hid (HasSuffix_is (St y) [41] true hz hb w)
  have hzr : (St y.dropLast).size < 4294967281 := by rw [St_size] at hz ⊢; rw [List.length_dropLast]; omega
  obtain ⟨l, hl⟩ : ∃ l, splitOn 44 y.dropLast = l := ⟨_, rfl⟩
  have hl1 : 1 ≤ l.length := by have := splitOn_ne 44 y.dropLast; rw [hl] at this; exact List.length_pos_iff.2 this
  have hle : ∀ k, (St (l.getD k [])).size < 4294967281 := fun k => by have := getD_le 44 y.dropLast k; rw [hl] at this; rw [St_size] at hzr ⊢; omega
  have H3 := fun w E => Lib.hid (Split_is (St y.dropLast) 44 l l.length hzr hl rfl w E)
  have h0 : l.headD [] = l.getD 0 [] := by cases l <;> rfl
  obtain ⟨p0, hp0⟩ : ∃ p, l.getD 0 [] = p := ⟨_, rfl⟩
  obtain ⟨p1, hp1⟩ : ∃ p, l.getD 1 [] = p := ⟨_, rfl⟩
  obtain ⟨p2, hp2⟩ : ∃ p, l.getD 2 [] = p := ⟨_, rfl⟩
  have hz2 : (St p2).size < 4294967281 := by rw [← hp2]; exact hle 2
  obtain ⟨r, hr1⟩ : ∃ r, register p0 8 = r := ⟨_, rfl⟩
  obtain ⟨x, hx1⟩ : ∃ r, register p1 8 = r := ⟨_, rfl⟩
  obtain ⟨q, hq⟩ : ∃ q, number p2 32 = q := ⟨_, rfl⟩
  obtain ⟨sc, f⟩ := q
  have H4 : ∀ w, Hid _ := fun w => Lib.hid (register_any (St p0) 8 (by simp) w)
  rw [bl_St, hr1] at H4
  have H5 : ∀ w, Hid _ := fun w => Lib.hid (register_any (St p1) 8 (by simp) w)
  rw [bl_St, hx1] at H5
  have H6 : ∀ w E, Hid _ := fun w E => Lib.hid (number_32 (St p2) hz2 w E)
  rw [bl_St, hq] at H6
  have hdl := Lib.hid (dropLast_extract y)
  have he1 : (((St y).extract 0 (y.length - 1)).toList == [37, 114, 105, 112]) = false := by rw [hdl.out, ByteArray.toList_eq]; exact hr
  have hE : memReg 0 y.dropLast = if l.length = 3 then
      (⟨3, r, 0, 0, x, sc, []⟩, f && decide (0 ≤ r) && decide (0 ≤ x) && decide (x ≠ 7) && (sc == 1 || sc == 2 || sc == 4 || sc == 8))
      else (⟨3, r, 0, 0, -1, 0, []⟩, decide (l.length = 1) && decide (0 ≤ r)) := by
    unfold memReg; simp only [hl, h0, hp0, hp1, hp2, hr1, hx1, hq]
  rw [hE]
  have hyl : y.length ≤ 4294967281 := by rw [St_size] at hz; omega
  have hll : l.length ≤ 9223372036854775807 := by have := hl; have h9 := splitOn_len 44 y.dropLast; rw [hl, List.length_dropLast] at h9; omega
  rw [hl] at h3
  rw [if_pos h3]
  have e3 : ((l.length : Int) == 3) = true := beq_iff_eq.2 (by omega)
  have hc0 : (strCells l)[0]? = some (.string (St p0)) := by rw [← hp0]; exact strCells_cell l 0 hl1
  have hc1 : (strCells l)[1]? = some (.string (St p1)) := by rw [← hp1]; exact strCells_cell l 1 (by omega)
  have hc2 : (strCells l)[2]? = some (.string (St p2)) := by rw [← hp2]; exact strCells_cell l 2 (by omega)
  have l1 : 1 < l.length := by omega
  have l2 : 2 < l.length := by omega
  obtain ⟨G, hG⟩ : ∃ G, (f && decide (0 ≤ r) && decide (0 ≤ x) && decide (x ≠ 7) && (sc == 1 || sc == 2 || sc == 4 || sc == 8)) = G := ⟨_, rfl⟩
  rw [hG]
  have HG := Lib.hid hG
  clear hG
  clear h3 hE hr1 hb hc hz hs hr hl hzr hx1 hq hp0 hp1 hp2 hz2 h0 hle
  go_enter Tryz.func79, Tryz.ntmps79
  go_wp2_with fail
  refine ((H1 _ E1).out).mono ?_
  rintro e w1 ⟨rfl, hbw1⟩
  have X0 := (Bx.new (w := w)).below hbw1
  have B1 := bstep (balloc (Below.refl _ w) _) hbw1
  have E2 := E1.below hbw1
  have hx0 := X0.cell
  have hf0 := X0.frozen
  go_wp2_with fail
  refine ((H2 _).out).mono ?_
  rintro e w2 ⟨rfl, rfl⟩
  go_wp2_with fail
  rw [hdl.out]
  have E3 := E2.below (balloc (Below.refl _ w1) (.cells #[.int .i64 3, .int .i64 0, .int .i64 0, .int .i64 0, .int .i64 (-1), .int .i64 0, .string { data := #[] }] 118))
  refine ((H3 _ E3).out).mono ?_
  rintro e w3 ⟨rfl, rfl⟩
  go_wp2_with fail
  refine ((H4 _).out).mono ?_
  rintro e w4 ⟨rfl, hbw4⟩
  have Y0 := X0.alloc.alloc.below hbw4
  have YO := Bx.new.alloc.below hbw4
  have YS := Bx.new.below hbw4
  rw [World.size_alloc] at YS
  have B4 := bstep (balloc (balloc B1 _) _) hbw4
  have hy0 := Y0.cell
  have hg0 := Y0.frozen
  have hyo := YO.cell
  have hgo := YO.frozen
  have hys := YS.cell
  clear hx0 hf0
  have hlt1 : w.heap.size < w1.heap.size := X0.lt
  have hne : ¬ w.heap.size = w1.heap.size := by have := X0.lt; omega
  have hne' : ¬ w1.heap.size = w.heap.size := by have := X0.lt; omega
  go_wp2_with fail
  refine ((H5 _).out).mono ?_
  rintro e w5 ⟨rfl, hbw5⟩
  have Z0 := (Y0.other hne).below hbw5
  have ZO := YO.set.below hbw5
  have ZS := (YS.other (by simp)).below hbw5
  have B5 := bstep (bset B4 (Nat.le_of_lt hlt1)) hbw5
  clear hy0 hg0 hyo hgo hys
  have hy0 := Z0.cell
  have hg0 := Z0.frozen
  have hyo := ZO.cell
  have hgo := ZO.frozen
  have hys := ZS.cell
  have E5 : Env (w5.setCell ⟨w1.heap.size, 4, none⟩ (.int .i64 x)) := E.below (bset B5 (Nat.le_of_lt hlt1))
  go_wp2_with fail
  refine ((H6 _ E5).out).mono ?_
  rintro e w6 ⟨rfl, hbw6⟩
  have V0 := (Z0.other hne).below hbw6
  have VO := ZO.set.below hbw6
  have B6 := bstep (bset B5 (Nat.le_of_lt hlt1)) hbw6
  clear hy0 hg0 hyo hgo hys
  have hy0 := V0.cell
  have hg0 := V0.frozen
  have hyo := VO.cell
  have hgo := VO.frozen
  cases f
  · go_wp2_with fail
    refine bodyPost_ret (v := .tuple #[Ov ⟨3, r, 0, 0, x, sc, []⟩, .bool false]) (by simp [results, Tryz.results79, go_sem, hy0, hyo, hg0, hgo, hne, hne', Ov]) rfl ⟨ret_o (by rw [← HG.out]; simp), ?_⟩
    (repeat' (first | with_reducible assumption | with_reducible exact Below.refl _ _ | (with_reducible refine below_drewN ?_ _) | (with_reducible refine Below.drew ?_) | (with_reducible refine balloc ?_ _) | (with_reducible refine Below.setCell ?_ (by first | exact Nat.le_refl _ | (simp; done) | omega | (simp; omega)) _) | (with_reducible refine bstep ?_ (by with_reducible assumption))))
  cases hg1 : decide (0 ≤ r)
  · go_wp2_with fail
    refine bodyPost_ret (v := .tuple #[Ov ⟨3, r, 0, 0, x, sc, []⟩, .bool false]) (by simp [results, Tryz.results79, go_sem, hy0, hyo, hg0, hgo, hne, hne', Ov]) rfl ⟨ret_o (by rw [← HG.out]; simp [hg1]), ?_⟩
    (repeat' (first | with_reducible assumption | with_reducible exact Below.refl _ _ | (with_reducible refine below_drewN ?_ _) | (with_reducible refine Below.drew ?_) | (with_reducible refine balloc ?_ _) | (with_reducible refine Below.setCell ?_ (by first | exact Nat.le_refl _ | (simp; done) | omega | (simp; omega)) _) | (with_reducible refine bstep ?_ (by with_reducible assumption))))
  cases hg2 : decide (0 ≤ x)
  · go_wp2_with fail
    refine bodyPost_ret (v := .tuple #[Ov ⟨3, r, 0, 0, x, sc, []⟩, .bool false]) (by simp [results, Tryz.results79, go_sem, hy0, hyo, hg0, hgo, hne, hne', Ov]) rfl ⟨ret_o (by rw [← HG.out]; simp [hg2]), ?_⟩
    (repeat' (first | with_reducible assumption | with_reducible exact Below.refl _ _ | (with_reducible refine below_drewN ?_ _) | (with_reducible refine Below.drew ?_) | (with_reducible refine balloc ?_ _) | (with_reducible refine Below.setCell ?_ (by first | exact Nat.le_refl _ | (simp; done) | omega | (simp; omega)) _) | (with_reducible refine bstep ?_ (by with_reducible assumption))))
  cases hg3 : (x != 7)
  · go_wp2_with fail
    refine bodyPost_ret (v := .tuple #[Ov ⟨3, r, 0, 0, x, sc, []⟩, .bool false]) (by simp [results, Tryz.results79, go_sem, hy0, hyo, hg0, hgo, hne, hne', Ov]) rfl ⟨ret_o (by rw [← HG.out]; have h := (bne_eq_false_iff_eq).1 hg3; simp [h]), ?_⟩
    (repeat' (first | with_reducible assumption | with_reducible exact Below.refl _ _ | (with_reducible refine below_drewN ?_ _) | (with_reducible refine Below.drew ?_) | (with_reducible refine balloc ?_ _) | (with_reducible refine Below.setCell ?_ (by first | exact Nat.le_refl _ | (simp; done) | omega | (simp; omega)) _) | (with_reducible refine bstep ?_ (by with_reducible assumption))))
  have hx7 : ¬ x = 7 := bne_iff_ne.1 hg3
  cases hg4 : (sc == 1)
  rotate_left
  · have HG' : Hid (G = true) := Lib.hid (by rw [← HG.out]; simp [hg1, hg2, hx7, hg4])
    clear hx7
    go_wp2_with fail
    refine bodyPost_ret (v := .tuple #[Ov ⟨3, r, 0, 0, x, sc, []⟩, .bool true]) (by simp [results, Tryz.results79, go_sem, hy0, hyo, hg0, hgo, hne, hne', Ov]) rfl ⟨ret_o (by exact HG'.out.symm), ?_⟩
    (repeat' (first | with_reducible assumption | with_reducible exact Below.refl _ _ | (with_reducible refine below_drewN ?_ _) | (with_reducible refine Below.drew ?_) | (with_reducible refine balloc ?_ _) | (with_reducible refine Below.setCell ?_ (by first | exact Nat.le_refl _ | (simp; done) | omega | (simp; omega)) _) | (with_reducible refine bstep ?_ (by with_reducible assumption))))
  cases hg5 : (sc == 2)
  rotate_left
  · have HG' : Hid (G = true) := Lib.hid (by rw [← HG.out]; simp [hg1, hg2, hx7, hg4, hg5])
    clear hx7
    go_wp2_with fail
    refine bodyPost_ret (v := .tuple #[Ov ⟨3, r, 0, 0, x, sc, []⟩, .bool true]) (by simp [results, Tryz.results79, go_sem, hy0, hyo, hg0, hgo, hne, hne', Ov]) rfl ⟨ret_o (by exact HG'.out.symm), ?_⟩
    (repeat' (first | with_reducible assumption | with_reducible exact Below.refl _ _ | (with_reducible refine below_drewN ?_ _) | (with_reducible refine Below.drew ?_) | (with_reducible refine balloc ?_ _) | (with_reducible refine Below.setCell ?_ (by first | exact Nat.le_refl _ | (simp; done) | omega | (simp; omega)) _) | (with_reducible refine bstep ?_ (by with_reducible assumption))))
  cases hg6 : (sc == 4)
  rotate_left
  · have HG' : Hid (G = true) := Lib.hid (by rw [← HG.out]; simp [hg1, hg2, hx7, hg4, hg5, hg6])
    clear hx7
    go_wp2_with fail
    refine bodyPost_ret (v := .tuple #[Ov ⟨3, r, 0, 0, x, sc, []⟩, .bool true]) (by simp [results, Tryz.results79, go_sem, hy0, hyo, hg0, hgo, hne, hne', Ov]) rfl ⟨ret_o (by exact HG'.out.symm), ?_⟩
    (repeat' (first | with_reducible assumption | with_reducible exact Below.refl _ _ | (with_reducible refine below_drewN ?_ _) | (with_reducible refine Below.drew ?_) | (with_reducible refine balloc ?_ _) | (with_reducible refine Below.setCell ?_ (by first | exact Nat.le_refl _ | (simp; done) | omega | (simp; omega)) _) | (with_reducible refine bstep ?_ (by with_reducible assumption))))
  cases hg7 : (sc == 8)
  rotate_left
  · have HG' : Hid (G = true) := Lib.hid (by rw [← HG.out]; simp [hg1, hg2, hx7, hg4, hg5, hg6, hg7])
    clear hx7
    go_wp2_with fail
    refine bodyPost_ret (v := .tuple #[Ov ⟨3, r, 0, 0, x, sc, []⟩, .bool true]) (by simp [results, Tryz.results79, go_sem, hy0, hyo, hg0, hgo, hne, hne', Ov]) rfl ⟨ret_o (by exact HG'.out.symm), ?_⟩
    (repeat' (first | with_reducible assumption | with_reducible exact Below.refl _ _ | (with_reducible refine below_drewN ?_ _) | (with_reducible refine Below.drew ?_) | (with_reducible refine balloc ?_ _) | (with_reducible refine Below.setCell ?_ (by first | exact Nat.le_refl _ | (simp; done) | omega | (simp; omega)) _) | (with_reducible refine bstep ?_ (by with_reducible assumption))))
  have HG' : Hid (G = false) := Lib.hid (by rw [← HG.out]; simp [hg4, hg5, hg6, hg7])
  clear hx7
  go_wp2_with fail
  refine bodyPost_ret (v := .tuple #[Ov ⟨3, r, 0, 0, x, sc, []⟩, .bool false]) (by simp [results, Tryz.results79, go_sem, hy0, hyo, hg0, hgo, hne, hne', Ov]) rfl ⟨ret_o (by exact HG'.out.symm), ?_⟩
  (repeat' (first | with_reducible assumption | with_reducible exact Below.refl _ _ | (with_reducible refine below_drewN ?_ _) | (with_reducible refine Below.drew ?_) | (with_reducible refine balloc ?_ _) | (with_reducible refine Below.setCell ?_ (by first | exact Nat.le_refl _ | (simp; done) | omega | (simp; omega)) _) | (with_reducible refine bstep ?_ (by with_reducible assumption))))
end Go.Proofs.YtfkfdffhajokkaaGreatDoor
