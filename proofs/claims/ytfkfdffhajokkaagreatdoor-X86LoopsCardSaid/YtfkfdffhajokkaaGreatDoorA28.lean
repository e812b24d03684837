/- How package x86's machine does leaq; conditions: a machine that lies in memory, operands as they are read. -/
import Derived.Test.YtfkfdffhajokkaaGreatDoorA26
import Derived.Deep.RegionHeld3
namespace Go.Proofs.YtfkfdffhajokkaaGreatDoor
open Go.RowKit X
set_option linter.unusedSimpArgs false
set_option maxHeartbeats 8000000 in
set_option maxRecDepth 100000 in
theorem two_lea4 (w0 w : World) (L : Lay) (C : Cd) (m : Mach) (vi vo : Value) (K : LOk w0 L C) (h : MAt w0 w L C m vi vo) (word : Str) (ad : Option Addr) (n cap : Nat) (fr tg : Opd) (ok : TwoOk word fr tg) (he : extTab.lookup word = none) (hp : partTab.lookup word = none) (hs : sumTab.lookup word = none) (hw : word = [108, 101, 97, 113]) (hk : fr.kind = 4) :
    Calls Tryz.prog 85 #[.pointer (some ⟨L.mb, 0, none⟩), .agg #[.string (St word), .slice ad n cap], Ov fr, Ov tg] w fun e w' => DoRet w0 w L C vi vo e w' (X.two C m word fr tg) := by
  obtain ⟨R, hR⟩ : ∃ R, X.two C m word fr tg = R := ⟨_, rfl⟩
  rw [hR]
  unfold X.two at hR
  have HX := fun w => Lib.hid (ext_any w)
  have B1 := balloc (Below.refl w.heap.size w) (.cells #[.string (St word), .slice ad n cap] 75)
  have B2 := balloc B1 (.cells (oc fr) 118)
  have B3 := balloc B2 (.cells (oc tg) 118)
  have X1 := ((Bx.new (w := w) (c := #[.string (St word), .slice ad n cap]) (T := 75)).alloc (o := .cells (oc fr) 118)).alloc (o := .cells (oc tg) 118)
  have X2 := (Bx.new (w := (w.alloc (.cells #[.string (St word), .slice ad n cap] 75))) (c := oc fr) (T := 118)).alloc (o := .cells (oc tg) 118)
  have X3 := Bx.new (w := (w.alloc (.cells #[.string (St word), .slice ad n cap] 75)).alloc (.cells (oc fr) 118)) (c := oc tg) (T := 118)
  rw [World.size_alloc] at X2
  rw [World.size_alloc, World.size_alloc] at X3
  have hT : TAt w0 w _ L C m vi vo word (.slice ad n cap) fr tg := ⟨h.on B3, Kp.of_below B3, X1, X2, X3⟩
  have hS : ∀ k, k ∈ L.S → k < w.heap.size := fun k hk => (K.S_lt h k hk).2
  have hx1 := X1.cell
  have hx2 := X2.cell
  have hx3 := X3.cell
  have hT := Lib.hid hT
  clear X1 X2 X3 B1 B2 B3
  have HE : ∀ (w : World) r, MapAt w r extMap → (Instr.lookup 168 (.map (some r)) (.string (St word)) true).run Tryz.prog w = .ok (.tuple #[Wd 0 false, .bool false]) w := fun w r hat => by rw [ext_run hat, he]; rfl
  have HP : ∀ (w : World) r, MapAt w r partMap → (Instr.lookup 63 (.map (some r)) (.string (St word)) true).run Tryz.prog w = .ok (.tuple #[.int .i64 0, .bool false]) w := fun w r hat => by rw [num_run hat, hp]; rfl
  have HPt := fun w => Lib.hid (parts_any w)
  have HSt := fun w => Lib.hid (sums_any w)
  have HS2 : ∀ (w : World) r, MapAt w r sumMap → (Instr.lookup 63 (.map (some r)) (.string (St word)) true).run Tryz.prog w = .ok (.tuple #[.int .i64 0, .bool false]) w := fun w r hat => by rw [num_run hat, hs]; rfl
  have tz := Lib.hid (show (word == [108, 101, 97, 113]) = true from beq_iff_eq.2 hw)
  have t4 : (fr.kind == 4) = true := beq_iff_eq.2 hk
  have hn3 : fr.kind ≠ 3 := by omega
  replace hR : X.move C m tg (X.target C m fr) 8 = R := by rw [← hR, he, hp, hs]; simp only; rw [if_pos hw, if_pos hk]
  have HA := fun w h => Lib.hid (target_any w0 w L C m vi vo K h fr ok.oa hn3)
  have hv : In64 (X.target C m fr) := by
    unfold X.target
    split
    · have := ok.oa.reg (.inl hn3)
      exact h.ok.regs _ (by omega)
    · cases hl : C.labels.lookup fr.name with
      | none => unfold In64; simp
      | some v => have := K.labs _ v hl; unfold In64; simp; omega
  obtain ⟨a, ha⟩ : ∃ a, X.target C m fr = a := ⟨_, rfl⟩
  rw [ha] at hv hR
  simp only [ha] at HA
  have HM := fun w h => Lib.hid (move_any w0 w L C m vi vo K h tg ok.ob a hv 8 (by decide))
  replace hR := Lib.hid hR
  clear he hp hs hn3 hk ha hv hw
  go_enter Tryz.func85, Tryz.ntmps85
  go_upto_region 1 with fail
  go_cut [8, 9] (fun s8 s9 wx => ∃ k, s8 = .pointer (some ⟨k, 0, none⟩) ∧ s9 = .bool false ∧ Bx wx k #[.int .i64 (0 : Int), .bool false] 157 ∧ w.heap.size ≤ k ∧ TAt w0 w wx L C m vi vo word (.slice ad n cap) fr tg)
  case first =>
    generalize hG : ((w.alloc (.cells #[.string (St word), .slice ad n cap] 75)).alloc (.cells (oc fr) 118)).alloc (.cells (oc tg) 118) = wg at *
    have hz1 := (hT.out.on (balloc (Below.refl _ _) (.cells #[.int .i64 0, .bool false] 157))).l.cell
    go_region_with (go_at_call 112; refine ((HX _).out).mono ?_; rintro e w1 ⟨r, rfl, hat, hb1⟩; have hB1 : Below wg.heap.size wg w1 := (by (repeat' (first | with_reducible assumption | with_reducible exact Below.refl _ _ | (with_reducible refine below_drewN ?_ _) | (with_reducible refine Below.drew ?_) | (with_reducible refine balloc ?_ _) | (with_reducible refine Below.setCell ?_ (by first | exact Nat.le_refl _ | (simp; done) | omega | (simp; omega)) _) | (with_reducible refine bstep ?_ (by with_reducible assumption))))); have hT1 := hT.out.on hB1; have hy1 := hT1.l.cell; have hy2 := (hT1.on (balloc (Below.refl _ _) (.cells #[.int .i64 0, .bool false] 157))).l.cell; (try (have X8 : Bx w1 wg.heap.size #[.int .i64 0, .bool false] 157 := (by first | exact Bx.below (Bx.new (w := wg)) hb1 | exact Bx.below (Bx.new (w := wg.drew)) hb1 | exact Bx.below (Bx.drew (Bx.new (w := wg))) hb1); have hx8 := X8.cell; have hf8 := X8.frozen)); have hl1 := HE _ _ hat; have hl2 := HE _ _ (hat.alloc hat.lt (.cells #[.int .i64 0, .bool false] 157)))
    all_goals
      go_wp2_with fail
      go_meet
      refine ⟨_, rfl, rfl, ?_, ?_, hT.out.on (by (repeat' (first | with_reducible assumption | with_reducible exact Below.refl _ _ | (with_reducible refine below_drewN ?_ _) | (with_reducible refine Below.drew ?_) | (with_reducible refine balloc ?_ _) | (with_reducible refine Below.setCell ?_ (by first | exact Nat.le_refl _ | (simp; done) | omega | (simp; omega)) _) | (with_reducible refine bstep ?_ (by with_reducible assumption)))))⟩
      · first
          | exact Bx.new
          | exact (Bx.set (i := 1) (v := .bool false) (Bx.set (i := 0) (v := .int .i64 (0 : Int)) X8))
          | exact (Bx.set (i := 1) (v := .bool false) (Bx.set (i := 0) (v := .int .i64 (0 : Int)) (Bx.new (w := w1) (c := #[.int .i64 0, .bool false]) (T := 157))))
          | (trace_state; fail)
      · have := hT.out.kp.size; have := hB1.size; omega
  case rest =>
    obtain ⟨k8, rfl, rfl, X8, hk8, T⟩ := hcut
    clear hx1 hx2 hx3 HX HE
    -- the parts of a register
    go_wp2_with fail
    go_cut [10, 11] (fun s10 s11 wx => s10 = .int .i64 (0 : Int) ∧ s11 = .bool false ∧ TAt w0 w wx L C m vi vo word (.slice ad n cap) fr tg)
    case first =>
      have hz := T.l.cell
      go_region_with (go_at_call 115; refine ((HPt _).out).mono ?_; rintro e w1 ⟨r, rfl, hat, hb1⟩; have hT1 := T.on (undrew hb1); have hy1 := hT1.l.cell; have hl1 := HP _ _ hat)
      all_goals
        go_wp2_with fail
        go_meet
        exact ⟨rfl, rfl, hT1⟩
    case rest =>
      clear T
      obtain ⟨rfl, rfl, T⟩ := hcut
      clear HPt HP
      -- the sums
      go_wp2_with fail
      go_cut [12, 13] (fun s12 s13 wx => s12 = .int .i64 (0 : Int) ∧ s13 = .bool false ∧ TAt w0 w wx L C m vi vo word (.slice ad n cap) fr tg)
      case first =>
        have hz := T.l.cell
        go_region_with (go_at_call 117; refine ((HSt _).out).mono ?_; rintro e w1 ⟨r, rfl, hat, hb1⟩; have hT1 := T.on (undrew hb1); have hy1 := hT1.l.cell; have hl1 := HS2 _ _ hat)
        all_goals
          go_wp2_with fail
          go_meet
          exact ⟨rfl, rfl, hT1⟩
      case rest =>
        clear T
        obtain ⟨rfl, rfl, T⟩ := hcut
        clear HSt HS2
        replace tz := tz.out
        have hyl := T.l.cell
        have hyf := T.f.cell
        have hyt := T.t.cell
        go_wp2_with fail
        go_region_with (first | (go_at_call 120; refine ((HA _ ?_).out).mono ?_; exact T.at_.on (Below.drew (Below.refl _ _)); rintro e w5 ⟨rfl, hb5⟩; have T5 := T.on (undrew hb5); have hz3 := T5.t.cell) | (go_at_call 113; refine ((HM _ T5.at_).out).mono ?_; rintro e w3 ⟨rfl, hM3, hK3⟩))
        all_goals
          go_wp2_with fail
          refine bodyPost_end (v := .tuple #[]) (by simp [results, Tryz.results85, go_sem]) rfl ?_
          rw [← hR.out]
          exact ⟨rfl, hM3, T5.kp.trans hK3⟩
set_option maxHeartbeats 8000000 in
set_option maxRecDepth 100000 in
theorem two_lea3 (w0 w : World) (L : Lay) (C : Cd) (m : Mach) (vi vo : Value) (K : LOk w0 L C) (h : MAt w0 w L C m vi vo) (word : Str) (ad : Option Addr) (n cap : Nat) (fr tg : Opd) (ok : TwoOk word fr tg) (he : extTab.lookup word = none) (hp : partTab.lookup word = none) (hs : sumTab.lookup word = none) (hw : word = [108, 101, 97, 113]) (hk : fr.kind = 3) :
    Calls Tryz.prog 85 #[.pointer (some ⟨L.mb, 0, none⟩), .agg #[.string (St word), .slice ad n cap], Ov fr, Ov tg] w fun e w' => DoRet w0 w L C vi vo e w' (X.two C m word fr tg) := by
  obtain ⟨R, hR⟩ : ∃ R, X.two C m word fr tg = R := ⟨_, rfl⟩
  rw [hR]
  unfold X.two at hR
  have HX := fun w => Lib.hid (ext_any w)
  have B1 := balloc (Below.refl w.heap.size w) (.cells #[.string (St word), .slice ad n cap] 75)
  have B2 := balloc B1 (.cells (oc fr) 118)
  have B3 := balloc B2 (.cells (oc tg) 118)
  have X1 := ((Bx.new (w := w) (c := #[.string (St word), .slice ad n cap]) (T := 75)).alloc (o := .cells (oc fr) 118)).alloc (o := .cells (oc tg) 118)
  have X2 := (Bx.new (w := (w.alloc (.cells #[.string (St word), .slice ad n cap] 75))) (c := oc fr) (T := 118)).alloc (o := .cells (oc tg) 118)
  have X3 := Bx.new (w := (w.alloc (.cells #[.string (St word), .slice ad n cap] 75)).alloc (.cells (oc fr) 118)) (c := oc tg) (T := 118)
  rw [World.size_alloc] at X2
  rw [World.size_alloc, World.size_alloc] at X3
  have hT : TAt w0 w _ L C m vi vo word (.slice ad n cap) fr tg := ⟨h.on B3, Kp.of_below B3, X1, X2, X3⟩
  have hS : ∀ k, k ∈ L.S → k < w.heap.size := fun k hk => (K.S_lt h k hk).2
  have hx1 := X1.cell
  have hx2 := X2.cell
  have hx3 := X3.cell
  have hT := Lib.hid hT
  clear X1 X2 X3 B1 B2 B3
  have HE : ∀ (w : World) r, MapAt w r extMap → (Instr.lookup 168 (.map (some r)) (.string (St word)) true).run Tryz.prog w = .ok (.tuple #[Wd 0 false, .bool false]) w := fun w r hat => by rw [ext_run hat, he]; rfl
  have HP : ∀ (w : World) r, MapAt w r partMap → (Instr.lookup 63 (.map (some r)) (.string (St word)) true).run Tryz.prog w = .ok (.tuple #[.int .i64 0, .bool false]) w := fun w r hat => by rw [num_run hat, hp]; rfl
  have HPt := fun w => Lib.hid (parts_any w)
  have HSt := fun w => Lib.hid (sums_any w)
  have HS2 : ∀ (w : World) r, MapAt w r sumMap → (Instr.lookup 63 (.map (some r)) (.string (St word)) true).run Tryz.prog w = .ok (.tuple #[.int .i64 0, .bool false]) w := fun w r hat => by rw [num_run hat, hs]; rfl
  have tz := Lib.hid (show (word == [108, 101, 97, 113]) = true from beq_iff_eq.2 hw)
  have t4 : (fr.kind == 4) = false := beq_f (by omega)
  replace hR : X.move C m tg (X.address C m fr) 8 = R := by rw [← hR, he, hp, hs]; simp only; rw [if_pos hw, if_neg (by omega)]
  have HA := fun w h => Lib.hid (address_any w0 w L C m vi vo K h fr ok.oa hk)
  have hv := address64 C m fr
  obtain ⟨a, ha⟩ : ∃ a, X.address C m fr = a := ⟨_, rfl⟩
  rw [ha] at hv hR
  simp only [ha] at HA
  have HM := fun w h => Lib.hid (move_any w0 w L C m vi vo K h tg ok.ob a hv 8 (by decide))
  replace hR := Lib.hid hR
  clear he hp hs hk ha hv hw
  go_enter Tryz.func85, Tryz.ntmps85
  go_upto_region 1 with fail
  go_cut [8, 9] (fun s8 s9 wx => ∃ k, s8 = .pointer (some ⟨k, 0, none⟩) ∧ s9 = .bool false ∧ Bx wx k #[.int .i64 (0 : Int), .bool false] 157 ∧ w.heap.size ≤ k ∧ TAt w0 w wx L C m vi vo word (.slice ad n cap) fr tg)
  case first =>
    generalize hG : ((w.alloc (.cells #[.string (St word), .slice ad n cap] 75)).alloc (.cells (oc fr) 118)).alloc (.cells (oc tg) 118) = wg at *
    have hz1 := (hT.out.on (balloc (Below.refl _ _) (.cells #[.int .i64 0, .bool false] 157))).l.cell
    go_region_with (go_at_call 112; refine ((HX _).out).mono ?_; rintro e w1 ⟨r, rfl, hat, hb1⟩; have hB1 : Below wg.heap.size wg w1 := (by (repeat' (first | with_reducible assumption | with_reducible exact Below.refl _ _ | (with_reducible refine below_drewN ?_ _) | (with_reducible refine Below.drew ?_) | (with_reducible refine balloc ?_ _) | (with_reducible refine Below.setCell ?_ (by first | exact Nat.le_refl _ | (simp; done) | omega | (simp; omega)) _) | (with_reducible refine bstep ?_ (by with_reducible assumption))))); have hT1 := hT.out.on hB1; have hy1 := hT1.l.cell; have hy2 := (hT1.on (balloc (Below.refl _ _) (.cells #[.int .i64 0, .bool false] 157))).l.cell; (try (have X8 : Bx w1 wg.heap.size #[.int .i64 0, .bool false] 157 := (by first | exact Bx.below (Bx.new (w := wg)) hb1 | exact Bx.below (Bx.new (w := wg.drew)) hb1 | exact Bx.below (Bx.drew (Bx.new (w := wg))) hb1); have hx8 := X8.cell; have hf8 := X8.frozen)); have hl1 := HE _ _ hat; have hl2 := HE _ _ (hat.alloc hat.lt (.cells #[.int .i64 0, .bool false] 157)))
    all_goals
      go_wp2_with fail
      go_meet
      refine ⟨_, rfl, rfl, ?_, ?_, hT.out.on (by (repeat' (first | with_reducible assumption | with_reducible exact Below.refl _ _ | (with_reducible refine below_drewN ?_ _) | (with_reducible refine Below.drew ?_) | (with_reducible refine balloc ?_ _) | (with_reducible refine Below.setCell ?_ (by first | exact Nat.le_refl _ | (simp; done) | omega | (simp; omega)) _) | (with_reducible refine bstep ?_ (by with_reducible assumption)))))⟩
      · first
          | exact Bx.new
          | exact (Bx.set (i := 1) (v := .bool false) (Bx.set (i := 0) (v := .int .i64 (0 : Int)) X8))
          | exact (Bx.set (i := 1) (v := .bool false) (Bx.set (i := 0) (v := .int .i64 (0 : Int)) (Bx.new (w := w1) (c := #[.int .i64 0, .bool false]) (T := 157))))
          | (trace_state; fail)
      · have := hT.out.kp.size; have := hB1.size; omega
  case rest =>
    obtain ⟨k8, rfl, rfl, X8, hk8, T⟩ := hcut
    clear hx1 hx2 hx3 HX HE
    -- the parts of a register
    go_wp2_with fail
    go_cut [10, 11] (fun s10 s11 wx => s10 = .int .i64 (0 : Int) ∧ s11 = .bool false ∧ TAt w0 w wx L C m vi vo word (.slice ad n cap) fr tg)
    case first =>
      have hz := T.l.cell
      go_region_with (go_at_call 115; refine ((HPt _).out).mono ?_; rintro e w1 ⟨r, rfl, hat, hb1⟩; have hT1 := T.on (undrew hb1); have hy1 := hT1.l.cell; have hl1 := HP _ _ hat)
      all_goals
        go_wp2_with fail
        go_meet
        exact ⟨rfl, rfl, hT1⟩
    case rest =>
      clear T
      obtain ⟨rfl, rfl, T⟩ := hcut
      clear HPt HP
      -- the sums
      go_wp2_with fail
      go_cut [12, 13] (fun s12 s13 wx => s12 = .int .i64 (0 : Int) ∧ s13 = .bool false ∧ TAt w0 w wx L C m vi vo word (.slice ad n cap) fr tg)
      case first =>
        have hz := T.l.cell
        go_region_with (go_at_call 117; refine ((HSt _).out).mono ?_; rintro e w1 ⟨r, rfl, hat, hb1⟩; have hT1 := T.on (undrew hb1); have hy1 := hT1.l.cell; have hl1 := HS2 _ _ hat)
        all_goals
          go_wp2_with fail
          go_meet
          exact ⟨rfl, rfl, hT1⟩
      case rest =>
        clear T
        obtain ⟨rfl, rfl, T⟩ := hcut
        clear HSt HS2
        replace tz := tz.out
        have hyl := T.l.cell
        have hyf := T.f.cell
        have hyt := T.t.cell
        go_wp2_with fail
        go_region_with (first | (go_at_call 121; refine ((HA _ ?_).out).mono ?_; exact T.at_.on (Below.drew (Below.refl _ _)); rintro e w5 ⟨rfl, hb5⟩; have T5 := T.on (undrew hb5); have hz3 := T5.t.cell) | (go_at_call 113; refine ((HM _ T5.at_).out).mono ?_; rintro e w3 ⟨rfl, hM3, hK3⟩))
        all_goals
          go_wp2_with fail
          refine bodyPost_end (v := .tuple #[]) (by simp [results, Tryz.results85, go_sem]) rfl ?_
          rw [← hR.out]
          exact ⟨rfl, hM3, T5.kp.trans hK3⟩
end Go.Proofs.YtfkfdffhajokkaaGreatDoor
/- How package x86's machine compares; conditions: a machine that lies in memory, operands as they are read. -/
namespace Go.Proofs.YtfkfdffhajokkaaGreatDoor
open Go.RowKit X
set_option linter.unusedSimpArgs false
set_option maxHeartbeats 8000000 in
set_option maxRecDepth 100000 in
theorem two_cmps (w0 w : World) (L : Lay) (C : Cd) (m : Mach) (vi vo : Value) (K : LOk w0 L C) (h : MAt w0 w L C m vi vo) (word : Str) (ad : Option Addr) (n cap : Nat) (fr tg : Opd) (ok : TwoOk word fr tg) (he : extTab.lookup word = none) (hp : partTab.lookup word = none) (hs : sumTab.lookup word = none) (hw : word = [99, 109, 112, 113]) :
    Calls Tryz.prog 85 #[.pointer (some ⟨L.mb, 0, none⟩), .agg #[.string (St word), .slice ad n cap], Ov fr, Ov tg] w fun e w' => DoRet w0 w L C vi vo e w' (X.two C m word fr tg) := by
  obtain ⟨R, hR⟩ : ∃ R, X.two C m word fr tg = R := ⟨_, rfl⟩
  rw [hR]
  unfold X.two at hR
  have HX := fun w => Lib.hid (ext_any w)
  have B1 := balloc (Below.refl w.heap.size w) (.cells #[.string (St word), .slice ad n cap] 75)
  have B2 := balloc B1 (.cells (oc fr) 118)
  have B3 := balloc B2 (.cells (oc tg) 118)
  have X1 := ((Bx.new (w := w) (c := #[.string (St word), .slice ad n cap]) (T := 75)).alloc (o := .cells (oc fr) 118)).alloc (o := .cells (oc tg) 118)
  have X2 := (Bx.new (w := (w.alloc (.cells #[.string (St word), .slice ad n cap] 75))) (c := oc fr) (T := 118)).alloc (o := .cells (oc tg) 118)
  have X3 := Bx.new (w := (w.alloc (.cells #[.string (St word), .slice ad n cap] 75)).alloc (.cells (oc fr) 118)) (c := oc tg) (T := 118)
  rw [World.size_alloc] at X2
  rw [World.size_alloc, World.size_alloc] at X3
  have hT : TAt w0 w _ L C m vi vo word (.slice ad n cap) fr tg := ⟨h.on B3, Kp.of_below B3, X1, X2, X3⟩
  have hS : ∀ k, k ∈ L.S → k < w.heap.size := fun k hk => (K.S_lt h k hk).2
  have hx1 := X1.cell
  have hx2 := X2.cell
  have hx3 := X3.cell
  have hT := Lib.hid hT
  clear X1 X2 X3 B1 B2 B3
  have HE : ∀ (w : World) r, MapAt w r extMap → (Instr.lookup 168 (.map (some r)) (.string (St word)) true).run Tryz.prog w = .ok (.tuple #[Wd 0 false, .bool false]) w := fun w r hat => by rw [ext_run hat, he]; rfl
  have HP : ∀ (w : World) r, MapAt w r partMap → (Instr.lookup 63 (.map (some r)) (.string (St word)) true).run Tryz.prog w = .ok (.tuple #[.int .i64 0, .bool false]) w := fun w r hat => by rw [num_run hat, hp]; rfl
  have HPt := fun w => Lib.hid (parts_any w)
  have HSt := fun w => Lib.hid (sums_any w)
  have HS2 : ∀ (w : World) r, MapAt w r sumMap → (Instr.lookup 63 (.map (some r)) (.string (St word)) true).run Tryz.prog w = .ok (.tuple #[.int .i64 0, .bool false]) w := fun w r hat => by rw [num_run hat, hs]; rfl
  have t0 : (word == [108, 101, 97, 113]) = false := neq_beq (by rw [hw]; decide)
  have tz := Lib.hid (show (word == [99, 109, 112, 113]) = true from beq_iff_eq.2 hw)
  replace hR : { (X.value C m fr 64 true).1 with x := m.regs tg.reg.toNat, y := (X.value C m fr 64 true).2, compared := true } = R := by rw [← hR, he, hp, hs]; simp only; rw [if_neg (by rw [hw]; decide), if_pos hw]
  have hk3 := ok.reg (.inr (by simp [hw]))
  obtain ⟨hr0, hr1⟩ := ok.ob.reg (.inl hk3)
  have hrl : tg.reg.toNat < 16 := by omega
  have hr64 := h.ok.regs _ hrl
  have hv := value_in64 C m fr ok.oa 64 true (by omega)
  have HV := fun w h => Lib.hid (value_any w0 w L C m vi vo K h fr ok.oa 64 true (by omega))
  have HQ := fun w => Lib.hid (quad_any w)
  have hqr := congrFun (value_regs C m fr 64 true) tg.reg.toNat
  obtain ⟨q, hq⟩ : ∃ q, X.value C m fr 64 true = q := ⟨_, rfl⟩
  rw [hq] at hR hv hqr
  simp only [hq] at HV
  replace hR := Lib.hid hR
  clear he hp hs hk3 hq hw
  go_enter Tryz.func85, Tryz.ntmps85
  go_upto_region 1 with fail
  go_cut [8, 9] (fun s8 s9 wx => ∃ k, s8 = .pointer (some ⟨k, 0, none⟩) ∧ s9 = .bool false ∧ Bx wx k #[.int .i64 (0 : Int), .bool false] 157 ∧ w.heap.size ≤ k ∧ TAt w0 w wx L C m vi vo word (.slice ad n cap) fr tg)
  case first =>
    generalize hG : ((w.alloc (.cells #[.string (St word), .slice ad n cap] 75)).alloc (.cells (oc fr) 118)).alloc (.cells (oc tg) 118) = wg at *
    have hz1 := (hT.out.on (balloc (Below.refl _ _) (.cells #[.int .i64 0, .bool false] 157))).l.cell
    go_region_with (go_at_call 112; refine ((HX _).out).mono ?_; rintro e w1 ⟨r, rfl, hat, hb1⟩; have hB1 : Below wg.heap.size wg w1 := (by (repeat' (first | with_reducible assumption | with_reducible exact Below.refl _ _ | (with_reducible refine below_drewN ?_ _) | (with_reducible refine Below.drew ?_) | (with_reducible refine balloc ?_ _) | (with_reducible refine Below.setCell ?_ (by first | exact Nat.le_refl _ | (simp; done) | omega | (simp; omega)) _) | (with_reducible refine bstep ?_ (by with_reducible assumption))))); have hT1 := hT.out.on hB1; have hy1 := hT1.l.cell; have hy2 := (hT1.on (balloc (Below.refl _ _) (.cells #[.int .i64 0, .bool false] 157))).l.cell; (try (have X8 : Bx w1 wg.heap.size #[.int .i64 0, .bool false] 157 := (by first | exact Bx.below (Bx.new (w := wg)) hb1 | exact Bx.below (Bx.new (w := wg.drew)) hb1 | exact Bx.below (Bx.drew (Bx.new (w := wg))) hb1); have hx8 := X8.cell; have hf8 := X8.frozen)); have hl1 := HE _ _ hat; have hl2 := HE _ _ (hat.alloc hat.lt (.cells #[.int .i64 0, .bool false] 157)))
    all_goals
      go_wp2_with fail
      go_meet
      refine ⟨_, rfl, rfl, ?_, ?_, hT.out.on (by (repeat' (first | with_reducible assumption | with_reducible exact Below.refl _ _ | (with_reducible refine below_drewN ?_ _) | (with_reducible refine Below.drew ?_) | (with_reducible refine balloc ?_ _) | (with_reducible refine Below.setCell ?_ (by first | exact Nat.le_refl _ | (simp; done) | omega | (simp; omega)) _) | (with_reducible refine bstep ?_ (by with_reducible assumption)))))⟩
      · first
          | exact Bx.new
          | exact (Bx.set (i := 1) (v := .bool false) (Bx.set (i := 0) (v := .int .i64 (0 : Int)) X8))
          | exact (Bx.set (i := 1) (v := .bool false) (Bx.set (i := 0) (v := .int .i64 (0 : Int)) (Bx.new (w := w1) (c := #[.int .i64 0, .bool false]) (T := 157))))
          | (trace_state; fail)
      · have := hT.out.kp.size; have := hB1.size; omega
  case rest =>
    obtain ⟨k8, rfl, rfl, X8, hk8, T⟩ := hcut
    clear hx1 hx2 hx3 HX HE
    -- the parts of a register
    go_wp2_with fail
    go_cut [10, 11] (fun s10 s11 wx => s10 = .int .i64 (0 : Int) ∧ s11 = .bool false ∧ TAt w0 w wx L C m vi vo word (.slice ad n cap) fr tg)
    case first =>
      have hz := T.l.cell
      go_region_with (go_at_call 115; refine ((HPt _).out).mono ?_; rintro e w1 ⟨r, rfl, hat, hb1⟩; have hT1 := T.on (undrew hb1); have hy1 := hT1.l.cell; have hl1 := HP _ _ hat)
      all_goals
        go_wp2_with fail
        go_meet
        exact ⟨rfl, rfl, hT1⟩
    case rest =>
      clear T
      obtain ⟨rfl, rfl, T⟩ := hcut
      clear HPt HP
      -- the sums
      go_wp2_with fail
      go_cut [12, 13] (fun s12 s13 wx => s12 = .int .i64 (0 : Int) ∧ s13 = .bool false ∧ TAt w0 w wx L C m vi vo word (.slice ad n cap) fr tg)
      case first =>
        have hz := T.l.cell
        go_region_with (go_at_call 117; refine ((HSt _).out).mono ?_; rintro e w1 ⟨r, rfl, hat, hb1⟩; have hT1 := T.on (undrew hb1); have hy1 := hT1.l.cell; have hl1 := HS2 _ _ hat)
        all_goals
          go_wp2_with fail
          go_meet
          exact ⟨rfl, rfl, hT1⟩
      case rest =>
        clear T
        obtain ⟨rfl, rfl, T⟩ := hcut
        clear HSt HS2
        replace tz := tz.out
        have hyl := T.l.cell
        go_wp2_with fail
        go_region_held3 (fun w' => w'.cell? ⟨w.heap.size + 1 + 1, 1, none⟩ = some (.int .i64 tg.reg) ∧ w'.cell? ⟨L.mb, 1 + tg.reg.toNat, none⟩ = some (.int .i64 (m.regs tg.reg.toNat)) ∧ w'.cell? ⟨w.heap.size + 1, 0, none⟩ = some (.int .i64 fr.kind) ∧ w'.cell? ⟨w.heap.size + 1, 1, none⟩ = some (.int .i64 fr.reg) ∧ w'.cell? ⟨w.heap.size + 1, 2, none⟩ = some (.int .i64 fr.bytes) ∧ w'.cell? ⟨w.heap.size + 1, 3, none⟩ = some (.int .i64 fr.n) ∧ w'.cell? ⟨w.heap.size + 1, 4, none⟩ = some (.int .i64 fr.x) ∧ w'.cell? ⟨w.heap.size + 1, 5, none⟩ = some (.int .i64 fr.scale) ∧ w'.cell? ⟨w.heap.size + 1, 6, none⟩ = some (.string (St fr.name))) (first | exact (T.on (Below.drew (Below.refl _ _))).held hrl rfl | exact T5.held hrl rfl | exact T2.held hrl hqr | exact T2a.held hrl hqr | exact T2b.held hrl hqr | exact T2c.held hrl hqr) (first | (go_at_call 119; refine ((HQ _).out).mono ?_; rintro e w5 ⟨rfl, hb5⟩; have T5 := T.on (undrew hb5)) | (go_at_call 114; refine ((HV _ ?_).out).mono ?_; exact T5.at_; rintro e w2 ⟨rfl, hM2, hK2⟩; have T2 := T5.turn hS hM2 hK2; have hz7 := hM2.box.cell; have hz8 := hM2.box.frozen; have A1 := hM2.put (m' := { q.1 with x := m.regs tg.reg.toNat }) K 20 (.int .i64 (m.regs tg.reg.toNat)) rfl hM2.inp rfl rfl rfl rfl ⟨hM2.ok.regs, hr64, hM2.ok.y, hM2.ok.at0, hM2.ok.at1, hM2.ok.kind, hM2.ok.code, hM2.ok.least⟩; have T2a := T2.turn hS A1 (Kp.putM L.mb_S _ _); have A2 := A1.put (m' := { q.1 with x := m.regs tg.reg.toNat, y := q.2 }) K 21 (.int .i64 q.2) rfl hM2.inp rfl rfl rfl rfl ⟨hM2.ok.regs, hr64, hv, hM2.ok.at0, hM2.ok.at1, hM2.ok.kind, hM2.ok.code, hM2.ok.least⟩; have T2b := T2a.turn hS A2 (Kp.putM L.mb_S _ _); have A3 := A2.put (m' := { q.1 with x := m.regs tg.reg.toNat, y := q.2, compared := true }) K 22 (.bool true) rfl hM2.inp rfl rfl rfl rfl ⟨hM2.ok.regs, hr64, hv, hM2.ok.at0, hM2.ok.at1, hM2.ok.kind, hM2.ok.code, hM2.ok.least⟩; have T2c := T2b.turn hS A3 (Kp.putM L.mb_S _ _)))
        all_goals
          go_wp2_with fail
          refine bodyPost_end (v := .tuple #[]) (by simp [results, Tryz.results85, go_sem]) rfl ?_
          rw [← hR.out]
          exact ⟨rfl, T2c.at_, T2c.kp⟩
end Go.Proofs.YtfkfdffhajokkaaGreatDoor
