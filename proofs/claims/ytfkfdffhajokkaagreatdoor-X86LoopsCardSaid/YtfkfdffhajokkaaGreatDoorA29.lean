/- How package x86's machine tests; conditions: a machine that lies in memory, operands as they are read. -/
import Derived.Test.YtfkfdffhajokkaaGreatDoorA26
import Derived.BigRegion
namespace Go.Proofs.YtfkfdffhajokkaaGreatDoor
open Go.RowKit X
set_option linter.unusedSimpArgs false
set_option maxHeartbeats 8000000 in
set_option maxRecDepth 100000 in
theorem two_tests (w0 w : World) (L : Lay) (C : Cd) (m : Mach) (vi vo : Value) (K : LOk w0 L C) (h : MAt w0 w L C m vi vo) (word : Str) (ad : Option Addr) (n cap : Nat) (fr tg : Opd) (ok : TwoOk word fr tg) (he : extTab.lookup word = none) (hp : partTab.lookup word = none) (hs : sumTab.lookup word = none) (hw : word = [116, 101, 115, 116, 113]) :
    Calls Tryz.prog 85 #[.pointer (some ⟨L.mb, 0, none⟩), .agg #[.string (St word), .slice ad n cap], Ov fr, Ov tg] w fun e w' => DoRet w0 w L C vi vo e w' (X.two C m word fr tg) := by
  obtain ⟨R, hR⟩ : ∃ R, X.two C m word fr tg = R := ⟨_, rfl⟩
  rw [hR]
  unfold X.two at hR
  have HX := fun w => Lib.hid (ext_any w)
  have B1 := balloc (Below.refl w.heap.size w) (.cells #[.string (St word), .slice ad n cap] 75)
  have B2 := balloc B1 (.cells (oc fr) 118)
  have B3 := balloc B2 (.cells (oc tg) 118)
  have X1 := ((Bx.new (w := w) (c := #[.string (St word), .slice ad n cap]) (T := 75)).alloc (o := .cells (oc fr) 118)).alloc (o := .cells (oc tg) 118)
  have X2 := (Bx.new (w := (w.alloc (.cells #[.string (St word), .slice ad n cap] 75))) (c := oc fr) (T := 118)).alloc (o := .cells (oc tg) 118)
  have X3 := Bx.new (w := (w.alloc (.cells #[.string (St word), .slice ad n cap] 75)).alloc (.cells (oc fr) 118)) (c := oc tg) (T := 118)
  rw [World.size_alloc] at X2
  rw [World.size_alloc, World.size_alloc] at X3
  have hT : TAt w0 w _ L C m vi vo word (.slice ad n cap) fr tg := ⟨h.on B3, Kp.of_below B3, X1, X2, X3⟩
  have hS : ∀ k, k ∈ L.S → k < w.heap.size := fun k hk => (K.S_lt h k hk).2
  have hx1 := X1.cell
  have hx2 := X2.cell
  have hx3 := X3.cell
  have hT := Lib.hid hT
  clear X1 X2 X3 B1 B2 B3
  have HE : ∀ (w : World) r, MapAt w r extMap → (Instr.lookup 168 (.map (some r)) (.string (St word)) true).run Tryz.prog w = .ok (.tuple #[Wd 0 false, .bool false]) w := fun w r hat => by rw [ext_run hat, he]; rfl
  have HP : ∀ (w : World) r, MapAt w r partMap → (Instr.lookup 63 (.map (some r)) (.string (St word)) true).run Tryz.prog w = .ok (.tuple #[.int .i64 0, .bool false]) w := fun w r hat => by rw [num_run hat, hp]; rfl
  have HPt := fun w => Lib.hid (parts_any w)
  have HSt := fun w => Lib.hid (sums_any w)
  have HS2 : ∀ (w : World) r, MapAt w r sumMap → (Instr.lookup 63 (.map (some r)) (.string (St word)) true).run Tryz.prog w = .ok (.tuple #[.int .i64 0, .bool false]) w := fun w r hat => by rw [num_run hat, hs]; rfl
  have t0 : (word == [108, 101, 97, 113]) = false := neq_beq (by rw [hw]; decide)
  have t1 : (word == [99, 109, 112, 113]) = false := neq_beq (by rw [hw]; decide)
  have tz := Lib.hid (show (word == [116, 101, 115, 116, 113]) = true from beq_iff_eq.2 hw)
  replace hR : { m with x := Go.bits .and .i64 (m.regs tg.reg.toNat) (m.regs fr.reg.toNat), y := 0, compared := true } = R := by rw [← hR, he, hp, hs]; simp only; rw [if_neg (by rw [hw]; decide), if_neg (by rw [hw]; decide), if_pos hw]
  have hk3 := ok.reg (.inr (by simp [hw]))
  obtain ⟨hr0, hr1⟩ := ok.ob.reg (.inl hk3)
  have hrl : tg.reg.toNat < 16 := by omega
  have hr64 := h.ok.regs _ hrl
  obtain ⟨hq0, hq1⟩ := ok.oa.reg (.inl (ok.test hw))
  have hql : fr.reg.toNat < 16 := by omega
  have hb64 := bits_in64 .and (m.regs tg.reg.toNat) (m.regs fr.reg.toNat) (.inl rfl)
  obtain ⟨bb, hbb⟩ : ∃ b, Go.bits .and .i64 (m.regs tg.reg.toNat) (m.regs fr.reg.toNat) = b := ⟨_, rfl⟩
  rw [hbb] at hb64 hR
  replace hR := Lib.hid hR
  clear he hp hs hk3 hw
  go_enter Tryz.func85, Tryz.ntmps85
  go_upto_region 1 with fail
  go_cut [8, 9] (fun s8 s9 wx => ∃ k, s8 = .pointer (some ⟨k, 0, none⟩) ∧ s9 = .bool false ∧ Bx wx k #[.int .i64 (0 : Int), .bool false] 157 ∧ w.heap.size ≤ k ∧ TAt w0 w wx L C m vi vo word (.slice ad n cap) fr tg)
  case first =>
    generalize hG : ((w.alloc (.cells #[.string (St word), .slice ad n cap] 75)).alloc (.cells (oc fr) 118)).alloc (.cells (oc tg) 118) = wg at *
    have hz1 := (hT.out.on (balloc (Below.refl _ _) (.cells #[.int .i64 0, .bool false] 157))).l.cell
    go_region_with (go_at_call 112; refine ((HX _).out).mono ?_; rintro e w1 ⟨r, rfl, hat, hb1⟩; have hB1 : Below wg.heap.size wg w1 := (by (repeat' (first | with_reducible assumption | with_reducible exact Below.refl _ _ | (with_reducible refine below_drewN ?_ _) | (with_reducible refine Below.drew ?_) | (with_reducible refine balloc ?_ _) | (with_reducible refine Below.setCell ?_ (by first | exact Nat.le_refl _ | (simp; done) | omega | (simp; omega)) _) | (with_reducible refine bstep ?_ (by with_reducible assumption))))); have hT1 := hT.out.on hB1; have hy1 := hT1.l.cell; have hy2 := (hT1.on (balloc (Below.refl _ _) (.cells #[.int .i64 0, .bool false] 157))).l.cell; (try (have X8 : Bx w1 wg.heap.size #[.int .i64 0, .bool false] 157 := (by first | exact Bx.below (Bx.new (w := wg)) hb1 | exact Bx.below (Bx.new (w := wg.drew)) hb1 | exact Bx.below (Bx.drew (Bx.new (w := wg))) hb1); have hx8 := X8.cell; have hf8 := X8.frozen)); have hl1 := HE _ _ hat; have hl2 := HE _ _ (hat.alloc hat.lt (.cells #[.int .i64 0, .bool false] 157)))
    all_goals
      go_wp2_with fail
      go_meet
      refine ⟨_, rfl, rfl, ?_, ?_, hT.out.on (by (repeat' (first | with_reducible assumption | with_reducible exact Below.refl _ _ | (with_reducible refine below_drewN ?_ _) | (with_reducible refine Below.drew ?_) | (with_reducible refine balloc ?_ _) | (with_reducible refine Below.setCell ?_ (by first | exact Nat.le_refl _ | (simp; done) | omega | (simp; omega)) _) | (with_reducible refine bstep ?_ (by with_reducible assumption)))))⟩
      · first
          | exact Bx.new
          | exact (Bx.set (i := 1) (v := .bool false) (Bx.set (i := 0) (v := .int .i64 (0 : Int)) X8))
          | exact (Bx.set (i := 1) (v := .bool false) (Bx.set (i := 0) (v := .int .i64 (0 : Int)) (Bx.new (w := w1) (c := #[.int .i64 0, .bool false]) (T := 157))))
          | (trace_state; fail)
      · have := hT.out.kp.size; have := hB1.size; omega
  case rest =>
    obtain ⟨k8, rfl, rfl, X8, hk8, T⟩ := hcut
    clear hx1 hx2 hx3 HX HE
    -- the parts of a register
    go_wp2_with fail
    go_cut [10, 11] (fun s10 s11 wx => s10 = .int .i64 (0 : Int) ∧ s11 = .bool false ∧ TAt w0 w wx L C m vi vo word (.slice ad n cap) fr tg)
    case first =>
      have hz := T.l.cell
      go_region_with (go_at_call 115; refine ((HPt _).out).mono ?_; rintro e w1 ⟨r, rfl, hat, hb1⟩; have hT1 := T.on (undrew hb1); have hy1 := hT1.l.cell; have hl1 := HP _ _ hat)
      all_goals
        go_wp2_with fail
        go_meet
        exact ⟨rfl, rfl, hT1⟩
    case rest =>
      clear T
      obtain ⟨rfl, rfl, T⟩ := hcut
      clear HPt HP
      -- the sums
      go_wp2_with fail
      go_cut [12, 13] (fun s12 s13 wx => s12 = .int .i64 (0 : Int) ∧ s13 = .bool false ∧ TAt w0 w wx L C m vi vo word (.slice ad n cap) fr tg)
      case first =>
        have hz := T.l.cell
        go_region_with (go_at_call 117; refine ((HSt _).out).mono ?_; rintro e w1 ⟨r, rfl, hat, hb1⟩; have hT1 := T.on (undrew hb1); have hy1 := hT1.l.cell; have hl1 := HS2 _ _ hat)
        all_goals
          go_wp2_with fail
          go_meet
          exact ⟨rfl, rfl, hT1⟩
      case rest =>
        clear T
        obtain ⟨rfl, rfl, T⟩ := hcut
        clear HSt HS2
        replace tz := tz.out
        have hyl := T.l.cell
        have hyf := T.f.cell
        have hyt := T.t.cell
        have hyr := T.at_.reg hrl
        have hyq := T.at_.reg hql
        have hM2 := T.at_
        have hz7 := hM2.box.cell
        have hz8 := hM2.box.frozen
        have A1 := hM2.put (m' := { m with x := bb }) K 20 (.int .i64 bb) rfl hM2.inp rfl rfl rfl rfl ⟨hM2.ok.regs, hb64, hM2.ok.y, hM2.ok.at0, hM2.ok.at1, hM2.ok.kind, hM2.ok.code, hM2.ok.least⟩
        have A2 := A1.put (m' := { m with x := bb, y := 0 }) K 21 (.int .i64 0) rfl hM2.inp rfl rfl rfl rfl ⟨hM2.ok.regs, hb64, in0, hM2.ok.at0, hM2.ok.at1, hM2.ok.kind, hM2.ok.code, hM2.ok.least⟩
        have A3 := A2.put (m' := { m with x := bb, y := 0, compared := true }) K 22 (.bool true) rfl hM2.inp rfl rfl rfl rfl ⟨hM2.ok.regs, hb64, in0, hM2.ok.at0, hM2.ok.at1, hM2.ok.kind, hM2.ok.code, hM2.ok.least⟩
        have A3 := Lib.hid A3
        have hKT := T.kp
        clear A1 A2
        go_wp2_with fail
        go_region
        all_goals
          go_wp2_with fail
          try rw [hbb]
          refine bodyPost_end (v := .tuple #[]) (by simp [results, Tryz.results85, go_sem]) rfl ?_
          rw [← hR.out]
          exact ⟨rfl, A3.out.on (Below.drew (Below.refl _ _)), (((hKT.setCell _ (.inl L.mb_S)).setCell _ (.inl L.mb_S)).setCell _ (.inl L.mb_S)).drew⟩
end Go.Proofs.YtfkfdffhajokkaaGreatDoor
/- How package x86's machine moves 8 bytes; conditions: a machine that lies in memory, operands as they are read. -/
namespace Go.Proofs.YtfkfdffhajokkaaGreatDoor
open Go.RowKit X
set_option linter.unusedSimpArgs false
set_option maxHeartbeats 8000000 in
set_option maxRecDepth 100000 in
theorem two_moves (w0 w : World) (L : Lay) (C : Cd) (m : Mach) (vi vo : Value) (K : LOk w0 L C) (h : MAt w0 w L C m vi vo) (word : Str) (ad : Option Addr) (n cap : Nat) (fr tg : Opd) (ok : TwoOk word fr tg) (he : extTab.lookup word = none) (hp : partTab.lookup word = none) (hs : sumTab.lookup word = none) (n0 : word ≠ [108, 101, 97, 113]) (n1 : word ≠ [99, 109, 112, 113]) (n2 : word ≠ [116, 101, 115, 116, 113]) :
    Calls Tryz.prog 85 #[.pointer (some ⟨L.mb, 0, none⟩), .agg #[.string (St word), .slice ad n cap], Ov fr, Ov tg] w fun e w' => DoRet w0 w L C vi vo e w' (X.two C m word fr tg) := by
  obtain ⟨R, hR⟩ : ∃ R, X.two C m word fr tg = R := ⟨_, rfl⟩
  rw [hR]
  unfold X.two at hR
  have HX := fun w => Lib.hid (ext_any w)
  have B1 := balloc (Below.refl w.heap.size w) (.cells #[.string (St word), .slice ad n cap] 75)
  have B2 := balloc B1 (.cells (oc fr) 118)
  have B3 := balloc B2 (.cells (oc tg) 118)
  have X1 := ((Bx.new (w := w) (c := #[.string (St word), .slice ad n cap]) (T := 75)).alloc (o := .cells (oc fr) 118)).alloc (o := .cells (oc tg) 118)
  have X2 := (Bx.new (w := (w.alloc (.cells #[.string (St word), .slice ad n cap] 75))) (c := oc fr) (T := 118)).alloc (o := .cells (oc tg) 118)
  have X3 := Bx.new (w := (w.alloc (.cells #[.string (St word), .slice ad n cap] 75)).alloc (.cells (oc fr) 118)) (c := oc tg) (T := 118)
  rw [World.size_alloc] at X2
  rw [World.size_alloc, World.size_alloc] at X3
  have hT : TAt w0 w _ L C m vi vo word (.slice ad n cap) fr tg := ⟨h.on B3, Kp.of_below B3, X1, X2, X3⟩
  have hS : ∀ k, k ∈ L.S → k < w.heap.size := fun k hk => (K.S_lt h k hk).2
  have hx1 := X1.cell
  have hx2 := X2.cell
  have hx3 := X3.cell
  have hT := Lib.hid hT
  clear X1 X2 X3 B1 B2 B3
  have HE : ∀ (w : World) r, MapAt w r extMap → (Instr.lookup 168 (.map (some r)) (.string (St word)) true).run Tryz.prog w = .ok (.tuple #[Wd 0 false, .bool false]) w := fun w r hat => by rw [ext_run hat, he]; rfl
  have HP : ∀ (w : World) r, MapAt w r partMap → (Instr.lookup 63 (.map (some r)) (.string (St word)) true).run Tryz.prog w = .ok (.tuple #[.int .i64 0, .bool false]) w := fun w r hat => by rw [num_run hat, hp]; rfl
  have HPt := fun w => Lib.hid (parts_any w)
  have HSt := fun w => Lib.hid (sums_any w)
  have HS2 : ∀ (w : World) r, MapAt w r sumMap → (Instr.lookup 63 (.map (some r)) (.string (St word)) true).run Tryz.prog w = .ok (.tuple #[.int .i64 0, .bool false]) w := fun w r hat => by rw [num_run hat, hs]; rfl
  have t0 := neq_beq n0
  have t1 := neq_beq n1
  have t2 := neq_beq n2
  replace hR : X.move C (X.value C m fr 64 true).1 tg (X.value C m fr 64 true).2 8 = R := by rw [← hR, he, hp, hs]; simp only; rw [if_neg n0, if_neg n1, if_neg n2]
  have hv := value_in64 C m fr ok.oa 64 true (by omega)
  have HV := fun w h => Lib.hid (value_any w0 w L C m vi vo K h fr ok.oa 64 true (by omega))
  have HQ := fun w => Lib.hid (quad_any w)
  have hqr := congrFun (value_regs C m fr 64 true) tg.reg.toNat
  obtain ⟨q, hq⟩ : ∃ q, X.value C m fr 64 true = q := ⟨_, rfl⟩
  rw [hq] at hR hv hqr
  simp only [hq] at HV
  have HM := fun w h => Lib.hid (move_any w0 w L C q.1 vi vo K h tg ok.ob q.2 hv 8 (by decide))
  replace hR := Lib.hid hR
  clear he hp hs hq hqr hv n0 n1 n2
  go_enter Tryz.func85, Tryz.ntmps85
  go_upto_region 1 with fail
  go_cut [8, 9] (fun s8 s9 wx => ∃ k, s8 = .pointer (some ⟨k, 0, none⟩) ∧ s9 = .bool false ∧ Bx wx k #[.int .i64 (0 : Int), .bool false] 157 ∧ w.heap.size ≤ k ∧ TAt w0 w wx L C m vi vo word (.slice ad n cap) fr tg)
  case first =>
    generalize hG : ((w.alloc (.cells #[.string (St word), .slice ad n cap] 75)).alloc (.cells (oc fr) 118)).alloc (.cells (oc tg) 118) = wg at *
    have hz1 := (hT.out.on (balloc (Below.refl _ _) (.cells #[.int .i64 0, .bool false] 157))).l.cell
    go_region_with (go_at_call 112; refine ((HX _).out).mono ?_; rintro e w1 ⟨r, rfl, hat, hb1⟩; have hB1 : Below wg.heap.size wg w1 := (by (repeat' (first | with_reducible assumption | with_reducible exact Below.refl _ _ | (with_reducible refine below_drewN ?_ _) | (with_reducible refine Below.drew ?_) | (with_reducible refine balloc ?_ _) | (with_reducible refine Below.setCell ?_ (by first | exact Nat.le_refl _ | (simp; done) | omega | (simp; omega)) _) | (with_reducible refine bstep ?_ (by with_reducible assumption))))); have hT1 := hT.out.on hB1; have hy1 := hT1.l.cell; have hy2 := (hT1.on (balloc (Below.refl _ _) (.cells #[.int .i64 0, .bool false] 157))).l.cell; (try (have X8 : Bx w1 wg.heap.size #[.int .i64 0, .bool false] 157 := (by first | exact Bx.below (Bx.new (w := wg)) hb1 | exact Bx.below (Bx.new (w := wg.drew)) hb1 | exact Bx.below (Bx.drew (Bx.new (w := wg))) hb1); have hx8 := X8.cell; have hf8 := X8.frozen)); have hl1 := HE _ _ hat; have hl2 := HE _ _ (hat.alloc hat.lt (.cells #[.int .i64 0, .bool false] 157)))
    all_goals
      go_wp2_with fail
      go_meet
      refine ⟨_, rfl, rfl, ?_, ?_, hT.out.on (by (repeat' (first | with_reducible assumption | with_reducible exact Below.refl _ _ | (with_reducible refine below_drewN ?_ _) | (with_reducible refine Below.drew ?_) | (with_reducible refine balloc ?_ _) | (with_reducible refine Below.setCell ?_ (by first | exact Nat.le_refl _ | (simp; done) | omega | (simp; omega)) _) | (with_reducible refine bstep ?_ (by with_reducible assumption)))))⟩
      · first
          | exact Bx.new
          | exact (Bx.set (i := 1) (v := .bool false) (Bx.set (i := 0) (v := .int .i64 (0 : Int)) X8))
          | exact (Bx.set (i := 1) (v := .bool false) (Bx.set (i := 0) (v := .int .i64 (0 : Int)) (Bx.new (w := w1) (c := #[.int .i64 0, .bool false]) (T := 157))))
          | (trace_state; fail)
      · have := hT.out.kp.size; have := hB1.size; omega
  case rest =>
    obtain ⟨k8, rfl, rfl, X8, hk8, T⟩ := hcut
    clear hx1 hx2 hx3 HX HE
    -- the parts of a register
    go_wp2_with fail
    go_cut [10, 11] (fun s10 s11 wx => s10 = .int .i64 (0 : Int) ∧ s11 = .bool false ∧ TAt w0 w wx L C m vi vo word (.slice ad n cap) fr tg)
    case first =>
      have hz := T.l.cell
      go_region_with (go_at_call 115; refine ((HPt _).out).mono ?_; rintro e w1 ⟨r, rfl, hat, hb1⟩; have hT1 := T.on (undrew hb1); have hy1 := hT1.l.cell; have hl1 := HP _ _ hat)
      all_goals
        go_wp2_with fail
        go_meet
        exact ⟨rfl, rfl, hT1⟩
    case rest =>
      clear T
      obtain ⟨rfl, rfl, T⟩ := hcut
      clear HPt HP
      -- the sums
      go_wp2_with fail
      go_cut [12, 13] (fun s12 s13 wx => s12 = .int .i64 (0 : Int) ∧ s13 = .bool false ∧ TAt w0 w wx L C m vi vo word (.slice ad n cap) fr tg)
      case first =>
        have hz := T.l.cell
        go_region_with (go_at_call 117; refine ((HSt _).out).mono ?_; rintro e w1 ⟨r, rfl, hat, hb1⟩; have hT1 := T.on (undrew hb1); have hy1 := hT1.l.cell; have hl1 := HS2 _ _ hat)
        all_goals
          go_wp2_with fail
          go_meet
          exact ⟨rfl, rfl, hT1⟩
      case rest =>
        clear T
        obtain ⟨rfl, rfl, T⟩ := hcut
        clear HSt HS2
        have hyl := T.l.cell
        have hyf := T.f.cell
        have hyt := T.t.cell
        go_wp2_with fail
        go_region_with (first | (go_at_call 119; refine ((HQ _).out).mono ?_; rintro e w5 ⟨rfl, hb5⟩; have T5 := T.on (undrew hb5); have hz3 := T5.t.cell; have hz4 := T5.f.cell) | (go_at_call 114; refine ((HV _ ?_).out).mono ?_; exact T5.at_; rintro e w2 ⟨rfl, hM2, hK2⟩; have T2 := T5.turn hS hM2 hK2; have hz1 := T2.t.cell; have hz2 := T2.f.cell) | (go_at_call 113; refine ((HM _ hM2).out).mono ?_; rintro e w3 ⟨rfl, hM3, hK3⟩))
        all_goals
          go_wp2_with fail
          refine bodyPost_end (v := .tuple #[]) (by simp [results, Tryz.results85, go_sem]) rfl ?_
          rw [← hR.out]
          exact ⟨rfl, hM3, T2.kp.trans hK3⟩
end Go.Proofs.YtfkfdffhajokkaaGreatDoor
