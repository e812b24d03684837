/- How package x86's machine pops; conditions: a machine that lies in memory. -/
import Derived.Test.YtfkfdffhajokkaaGreatDoorA21
import Derived.Deep.RegionWith
namespace Go.Proofs.YtfkfdffhajokkaaGreatDoor
open Go.RowKit X
set_option linter.unusedSimpArgs false
set_option maxRecDepth 100000 in
theorem quad_any (w : World) : Calls Tryz.prog 119 #[] w fun e w' => e = .returned (Wd 64 true) ∧ Below w.heap.size w w' := by
  have H := fun w => Lib.hid (width_any 8 true (by decide) (by decide) w)
  have X0 := Bx.new (w := w) (c := #[.int .i64 0, .bool false]) (T := 157)
  have B0 := balloc (Below.refl w.heap.size w) (.cells #[.int .i64 0, .bool false] 157)
  go_enter Tryz.func119, Tryz.ntmps119
  go_wp2_with fail
  refine ((H _).out).mono ?_
  rintro e w1 ⟨rfl, hb⟩
  have X1 := X0.below hb
  have hx := X1.cell
  have hf := X1.frozen
  have B1 := bstep B0 hb
  go_wp2_with fail
  have X2 : Bx ((w1.setCell ⟨w.heap.size, 0, none⟩ (.int .i64 64)).setCell ⟨w.heap.size, 1, none⟩ (.bool true)) w.heap.size #[.int .i64 64, .bool true] 157 := (X1.set (i := 0) (v := .int .i64 64)).set (i := 1) (v := .bool true)
  have hx2 := X2.cell
  exact bodyPost_ret (v := Wd 64 true) (by simp [results, Tryz.results119, go_sem, hx2]) rfl ⟨rfl, by (repeat' (first | with_reducible assumption | with_reducible exact Below.refl _ _ | (with_reducible refine below_drewN ?_ _) | (with_reducible refine Below.drew ?_) | (with_reducible refine balloc ?_ _) | (with_reducible refine Below.setCell ?_ (by first | exact Nat.le_refl _ | (simp; done) | omega | (simp; omega)) _) | (with_reducible refine bstep ?_ (by with_reducible assumption))))⟩
set_option maxHeartbeats 1000000 in
set_option maxRecDepth 100000 in
theorem pop_any (w0 w : World) (L : Lay) (C : Cd) (m : Mach) (vi vo : Value) (K : LOk w0 L C) (h : MAt w0 w L C m vi vo) :
    Calls Tryz.prog 87 #[.pointer (some ⟨L.mb, 0, none⟩)] w fun e w' => LodRet w0 w L C vi vo e w' (X.pop C m) := by
  obtain ⟨R, hR⟩ : ∃ R, X.pop C m = R := ⟨_, rfl⟩
  rw [hR]
  unfold X.pop at hR
  have hx := h.box.cell
  have hml := h.box.lt
  have H7 := h.ok.regs 7 (by decide)
  have HQ := fun w => Lib.hid (quad_any w)
  have HL := fun w h => Lib.hid (load_any w0 w L C m vi vo K h (m.regs 7) 64 true H7 (by omega))
  obtain ⟨l, hl⟩ : ∃ l, X.load C m (m.regs 7) 64 true = l := ⟨_, rfl⟩
  rw [hl] at hR HL
  clear hl
  have hh := Lib.hid h
  go_enter Tryz.func87, Tryz.ntmps87
  go_wp2_with fail
  go_region_with (first | (go_at_call 119; refine ((HQ _).out).mono ?_; rintro e w1 ⟨rfl, hb1⟩; have hx1 := (hh.out.on (bstep (Below.drew (Below.refl _ _)) hb1)).box.cell) | (go_at_call 124; refine ((HL _ ?_).out).mono ?_; exact hh.out.on (bstep (Below.drew (Below.refl _ _)) hb1); rintro e w2 ⟨rfl, hM2, hK2⟩))
  all_goals
    have hK3 : Kp L.S w w2 := (Kp.of_below (bstep (Below.drew (Below.refl _ _)) hb1)).trans hK2
    have hK3 := Lib.hid hK3
    clear hx hx1 hb1 hK2 HL HQ
    have hx2 := hM2.box.cell
    have hf2 := hM2.box.frozen
    obtain ⟨k, hk⟩ : ∃ k, wrap64 (l.1.regs 7 + 8) = k := ⟨_, rfl⟩
    have hk64 : In64 k := by rw [← hk]; exact In64.wrap _
    have hk2 : IntKind.i64.wrap (l.1.regs 7 + 8) = k := by rw [← hk, IntKind.wrap_i64]; unfold wrap64; omega
    rw [hk] at hR
    have A1 := hM2.put (m' := setReg l.1 7 k) K 8 (.int .i64 k) rfl hM2.inp rfl rfl rfl rfl (hM2.ok.setReg 7 hk64)
    have A1 := Lib.hid A1
    go_wp2_with fail
    go_region
    go_wp2_with fail
    go_ret
    rw [← hR]
    exact ⟨rfl, A1.out.on (Below.drew (Below.refl _ _)), (hK3.out.setCell _ (.inl L.mb_S)).drew⟩
end Go.Proofs.YtfkfdffhajokkaaGreatDoor
/- What an operand has, to package x86's machine; conditions: a machine that lies in memory. -/
namespace Go.Proofs.YtfkfdffhajokkaaGreatDoor
open Go.RowKit X
set_option linter.unusedSimpArgs false
theorem undrew {w w1 : World} (h : Below w.drew.heap.size w.drew w1) : Below w.heap.size w w1 := bstep (Below.drew (Below.refl _ _)) h
theorem address64 (C : Cd) (m : Mach) (o : Opd) : In64 (X.address C m o) := by
  unfold X.address
  split
  · exact In64.wrap _
  · split <;> exact In64.wrap _
set_option maxHeartbeats 2000000 in
set_option maxRecDepth 100000 in
theorem value_any (w0 w : World) (L : Lay) (C : Cd) (m : Mach) (vi vo : Value) (K : LOk w0 L C) (h : MAt w0 w L C m vi vo) (o : Opd) (ok : OpOk o) (b : Int) (s : Bool) (hb8 : b = 8 ∨ b = 16 ∨ b = 32 ∨ b = 64) :
    Calls Tryz.prog 114 #[.pointer (some ⟨L.mb, 0, none⟩), Ov o, Wd b s] w fun e w' => LodRet w0 w L C vi vo e w' (X.value C m o b s) := by
  obtain ⟨R, hR⟩ : ∃ R, X.value C m o b s = R := ⟨_, rfl⟩
  rw [hR]
  have HA := fun w h h3 => Lib.hid (address_any w0 w L C m vi vo K h o ok h3)
  have ha64 := address64 C m o
  have HL := fun w h => Lib.hid (load_any w0 w L C m vi vo K h (X.address C m o) b s ha64 hb8)
  have HW := fun n w => Lib.hid (wrap_any b hb8 s n w)
  obtain ⟨a, ha⟩ : ∃ a, X.address C m o = a := ⟨_, rfl⟩
  obtain ⟨kind, reg, bytes, n, x, scale, name⟩ := o
  unfold X.value at hR
  simp only at hR
  rw [ha] at hR
  simp only [ha] at HA HL
  have X4 := (Bx.new (w := w) (c := #[.int .i64 kind, .int .i64 reg, .int .i64 bytes, .int .i64 n, .int .i64 x, .int .i64 scale, .string (St name)]) (T := 118)).alloc (o := .cells #[.int .i64 b, .bool s] 157)
  have X5 := Bx.new (w := w.alloc (.cells #[.int .i64 kind, .int .i64 reg, .int .i64 bytes, .int .i64 n, .int .i64 x, .int .i64 scale, .string (St name)] 118)) (c := #[.int .i64 b, .bool s]) (T := 157)
  rw [World.size_alloc] at X5
  have hml := h.box.lt
  have hW : Below w.heap.size w ((w.alloc (.cells #[.int .i64 kind, .int .i64 reg, .int .i64 bytes, .int .i64 n, .int .i64 x, .int .i64 scale, .string (St name)] 118)).alloc (.cells #[.int .i64 b, .bool s] 157)) := by (repeat' (first | with_reducible assumption | with_reducible exact Below.refl _ _ | (with_reducible refine below_drewN ?_ _) | (with_reducible refine Below.drew ?_) | (with_reducible refine balloc ?_ _) | (with_reducible refine Below.setCell ?_ (by first | exact Nat.le_refl _ | (simp; done) | omega | (simp; omega)) _) | (with_reducible refine bstep ?_ (by with_reducible assumption))))
  have hx4 := X4.cell
  have hx5 := X5.cell
  have h1 := h.on hW
  clear ha ha64 hb8
  by_cases h2 : kind = 2
  · have t2 : (kind == 2) = true := beq_iff_eq.2 h2
    have hR := Lib.hid (show (m, n) = R by rw [← hR, if_pos h2])
    clear h2 HA HL HW ok
    go_enter Tryz.func114, Tryz.ntmps114
    go_wp2_with fail
    go_ret
    rw [← hR.out]
    exact ⟨rfl, h1, Kp.of_below hW⟩
  · have t2 : (kind == 2) = false := beq_f h2
    by_cases h3 : kind = 3
    · have t3 : (kind == 3) = true := beq_iff_eq.2 h3
      obtain ⟨l, hl⟩ : ∃ l, X.load C m a b s = l := ⟨_, rfl⟩
      have hR := Lib.hid (show l = R by rw [← hR, if_neg h2, if_pos h3, hl])
      simp only [hl] at HL
      have HA := fun w h => HA w h h3
      have hh := Lib.hid h1
      have hX4 := Lib.hid X4
      have hX5 := Lib.hid X5
      clear h2 h3 hl HW ok X4 X5 h1
      go_enter Tryz.func114, Tryz.ntmps114
      go_wp2_with fail
      generalize hG : (w.alloc (.cells #[.int .i64 kind, .int .i64 reg, .int .i64 bytes, .int .i64 n, .int .i64 x, .int .i64 scale, .string (St name)] 118)).alloc (.cells #[.int .i64 b, .bool s] 157) = wg at *
      go_region_with (first | (go_at_call 121; refine ((HA _ ?_).out).mono ?_; exact hh.out.on (Below.drew (Below.refl _ _)); rintro e w1 ⟨rfl, hb1⟩; have hy5 := (hX5.out.below (undrew hb1)).cell; have hy4 := (hX4.out.below (undrew hb1)).cell) | (go_at_call 124; refine ((HL _ ?_).out).mono ?_; exact hh.out.on (undrew hb1); rintro e w2 ⟨rfl, hM2, hK2⟩))
      all_goals
        go_wp2_with fail
        go_ret
        rw [← hR.out]
        exact ⟨rfl, hM2, ((Kp.of_below hW).below (undrew hb1)).trans hK2⟩
    · have t3 : (kind == 3) = false := beq_f h3
      obtain ⟨hr0, hr1⟩ := ok.reg (.inl h3)
      simp only at hr0 hr1
      obtain ⟨r, rfl⟩ : ∃ r : Nat, reg = r := ⟨reg.toNat, by omega⟩
      have hrl : r < 16 := by omega
      have hrl' : (r : Int) < 16 := by omega
      have hR := Lib.hid (show (m, wrapW b s (m.regs r)) = R by rw [← hR, if_neg h2, if_neg h3]; rfl)
      have hreg := h1.reg hrl
      clear h2 h3 HA HL ok hr0 hr1
      have hh := Lib.hid h1
      clear X4 X5 h1
      go_enter Tryz.func114, Tryz.ntmps114
      go_wp2_with fail
      generalize hG : (w.alloc (.cells #[.int .i64 kind, .int .i64 (r : Int), .int .i64 bytes, .int .i64 n, .int .i64 x, .int .i64 scale, .string (St name)] 118)).alloc (.cells #[.int .i64 b, .bool s] 157) = wg at *
      go_region_with (go_at_call 144; refine ((HW _ _).out).mono ?_; rintro e w1 ⟨rfl, hb1⟩)
      all_goals
        go_wp2_with fail
        go_ret
        rw [← hR.out]
        exact ⟨rfl, hh.out.on (undrew hb1), (Kp.of_below hW).below (undrew hb1)⟩
end Go.Proofs.YtfkfdffhajokkaaGreatDoor
/- How package x86's machine writes to an operand; conditions: a machine that lies in memory. -/
namespace Go.Proofs.YtfkfdffhajokkaaGreatDoor
open Go.RowKit X
set_option linter.unusedSimpArgs false
theorem mcells_set (p : Nat) (m : Mach) (vd vs vi vo : Value) {r : Nat} (hr : r < 16) (v : Int) : (mcells p m vd vs vi vo).setIfInBounds (1 + r) (.int .i64 v) = mcells p (setReg m r v) vd vs vi vo := by
  have h : r = 0 ∨ r = 1 ∨ r = 2 ∨ r = 3 ∨ r = 4 ∨ r = 5 ∨ r = 6 ∨ r = 7 ∨ r = 8 ∨ r = 9 ∨ r = 10 ∨ r = 11 ∨ r = 12 ∨ r = 13 ∨ r = 14 ∨ r = 15 := by omega
  rcases h with rfl | rfl | rfl | rfl | rfl | rfl | rfl | rfl | rfl | rfl | rfl | rfl | rfl | rfl | rfl | rfl <;> rfl
set_option maxHeartbeats 2000000 in
set_option maxRecDepth 100000 in
theorem move_any (w0 w : World) (L : Lay) (C : Cd) (m : Mach) (vi vo : Value) (K : LOk w0 L C) (h : MAt w0 w L C m vi vo) (o : Opd) (ok : OpOk o) (v : Int) (hv : In64 v) (k : Nat) (hk : 1 ≤ k ∧ k ≤ 8) :
    Calls Tryz.prog 113 #[.pointer (some ⟨L.mb, 0, none⟩), Ov o, .int .i64 v, .int .i64 k] w fun e w' => DoRet w0 w L C vi vo e w' (X.move C m o v k) := by
  obtain ⟨R, hR⟩ : ∃ R, X.move C m o v k = R := ⟨_, rfl⟩
  rw [hR]
  have HA := fun w h h3 => Lib.hid (address_any w0 w L C m vi vo K h o ok h3)
  have ha64 := address64 C m o
  have HS := fun w h => Lib.hid (store_any w0 w L C m vi vo K h (X.address C m o) v k ha64 hk)
  obtain ⟨a, ha⟩ : ∃ a, X.address C m o = a := ⟨_, rfl⟩
  obtain ⟨kind, reg, bytes, n, x, scale, name⟩ := o
  unfold X.move at hR
  simp only at hR
  rw [ha] at hR
  simp only [ha] at HA HS
  have X4 := Bx.new (w := w) (c := #[.int .i64 kind, .int .i64 reg, .int .i64 bytes, .int .i64 n, .int .i64 x, .int .i64 scale, .string (St name)]) (T := 118)
  have hml := h.box.lt
  have hW : Below w.heap.size w (w.alloc (.cells #[.int .i64 kind, .int .i64 reg, .int .i64 bytes, .int .i64 n, .int .i64 x, .int .i64 scale, .string (St name)] 118)) := by (repeat' (first | with_reducible assumption | with_reducible exact Below.refl _ _ | (with_reducible refine below_drewN ?_ _) | (with_reducible refine Below.drew ?_) | (with_reducible refine balloc ?_ _) | (with_reducible refine Below.setCell ?_ (by first | exact Nat.le_refl _ | (simp; done) | omega | (simp; omega)) _) | (with_reducible refine bstep ?_ (by with_reducible assumption))))
  have hx4 := X4.cell
  have h1 := h.on hW
  have hk24 : (w.alloc (.cells #[.int .i64 kind, .int .i64 reg, .int .i64 bytes, .int .i64 n, .int .i64 x, .int .i64 scale, .string (St name)] 118)).cell? ⟨L.mb, 24, none⟩ = some (.int .i64 m.kind) := by rw [h1.box.cell]; rfl
  clear ha ha64
  by_cases h0 : m.kind = 0
  · have t0 : (m.kind == 0) = true := beq_iff_eq.2 h0
    rw [if_neg (by simp [h0])] at hR
    clear h0
    by_cases h3 : kind = 3
    · have t3 : (kind == 3) = true := beq_iff_eq.2 h3
      rw [if_pos h3] at hR
      have hR := Lib.hid hR
      have HA := fun w h => HA w h h3
      have hh := Lib.hid h1
      clear h3 ok h1
      go_enter Tryz.func113, Tryz.ntmps113
      go_wp2_with fail
      refine ((HA _ hh.out).out).mono ?_
      rintro e w1 ⟨rfl, hb1⟩
      have hM1 := Lib.hid (hh.out.on hb1)
      go_wp2_with fail
      refine ((HS _ hM1.out).out).mono ?_
      rintro e w2 ⟨rfl, hM2, hK2⟩
      go_wp2_with fail
      refine bodyPost_ret (v := .tuple #[]) (by simp [results, Tryz.results113, go_sem]) rfl ?_
      rw [← hR.out]
      exact ⟨rfl, hM2, ((Kp.of_below hW).below hb1).trans hK2⟩
    · have t3 : (kind == 3) = false := beq_f h3
      obtain ⟨hr0, hr1⟩ := ok.reg (.inl h3)
      simp only at hr0 hr1
      obtain ⟨r, rfl⟩ : ∃ r : Nat, reg = r := ⟨reg.toNat, by omega⟩
      have hrl : r < 16 := by omega
      have hrl' : (r : Int) < 16 := by omega
      rw [if_neg h3] at hR
      have hR := Lib.hid (show setReg m r v = R by rw [← hR]; rfl)
      have hreg := h1.reg hrl
      have hfz := h1.box.frozen
      have A1 := h.put (m' := setReg m r v) K (1 + r) (.int .i64 v) (mcells_set _ _ _ _ _ _ hrl v) h.inp rfl rfl rfl rfl (h.ok.setReg r hv)
      have A1 := Lib.hid A1
      clear h3 HA HS ok hr0 hr1 h1
      go_enter Tryz.func113, Tryz.ntmps113
      go_wp2_with fail
      go_region
      go_wp2_with fail
      refine bodyPost_end (v := .tuple #[]) (by simp [results, Tryz.results113, go_sem]) rfl ?_
      rw [← hR.out]
      exact ⟨rfl, A1.out.on (Below.drew (balloc (Below.refl _ _) _)), ((Kp.putM L.mb_S _ _).alloc _).drew⟩
  · have t0 : (m.kind == 0) = false := beq_f h0
    have hR := Lib.hid (show m = R by rw [← hR, if_pos h0])
    clear HA HS ok
    go_enter Tryz.func113, Tryz.ntmps113
    go_wp2_with fail
    refine bodyPost_ret (v := .tuple #[]) (by simp [results, Tryz.results113, go_sem]) rfl ?_
    rw [← hR.out]
    exact ⟨rfl, h1, Kp.of_below hW⟩
end Go.Proofs.YtfkfdffhajokkaaGreatDoor
