/- How package x86's machine does an instruction that writes a part of a register or of memory; conditions: a machine that lies in memory, operands as they are read. -/
import Derived.Test.YtfkfdffhajokkaaGreatDoorA26
import Derived.Deep.RegionHeld3
namespace Go.Proofs.YtfkfdffhajokkaaGreatDoor
open Go.RowKit X
set_option linter.unusedSimpArgs false
set_option maxHeartbeats 4000000 in
set_option maxRecDepth 100000 in
theorem two_part (w0 w : World) (L : Lay) (C : Cd) (m : Mach) (vi vo : Value) (K : LOk w0 L C) (h : MAt w0 w L C m vi vo) (word : Str) (ad : Option Addr) (n cap : Nat) (fr tg : Opd) (ok : TwoOk word fr tg) (p : Int) (he : extTab.lookup word = none) (hp : partTab.lookup word = some p) :
    Calls Tryz.prog 85 #[.pointer (some ⟨L.mb, 0, none⟩), .agg #[.string (St word), .slice ad n cap], Ov fr, Ov tg] w fun e w' => DoRet w0 w L C vi vo e w' (X.two C m word fr tg) := by
  obtain ⟨R, hR⟩ : ∃ R, X.two C m word fr tg = R := ⟨_, rfl⟩
  rw [hR]
  unfold X.two at hR
  have HX := fun w => Lib.hid (ext_any w)
  have B1 := balloc (Below.refl w.heap.size w) (.cells #[.string (St word), .slice ad n cap] 75)
  have B2 := balloc B1 (.cells (oc fr) 118)
  have B3 := balloc B2 (.cells (oc tg) 118)
  have X1 := ((Bx.new (w := w) (c := #[.string (St word), .slice ad n cap]) (T := 75)).alloc (o := .cells (oc fr) 118)).alloc (o := .cells (oc tg) 118)
  have X2 := (Bx.new (w := (w.alloc (.cells #[.string (St word), .slice ad n cap] 75))) (c := oc fr) (T := 118)).alloc (o := .cells (oc tg) 118)
  have X3 := Bx.new (w := (w.alloc (.cells #[.string (St word), .slice ad n cap] 75)).alloc (.cells (oc fr) 118)) (c := oc tg) (T := 118)
  rw [World.size_alloc] at X2
  rw [World.size_alloc, World.size_alloc] at X3
  have hT : TAt w0 w _ L C m vi vo word (.slice ad n cap) fr tg := ⟨h.on B3, Kp.of_below B3, X1, X2, X3⟩
  have hS : ∀ k, k ∈ L.S → k < w.heap.size := fun k hk => (K.S_lt h k hk).2
  have hx1 := X1.cell
  have hx2 := X2.cell
  have hx3 := X3.cell
  have hT := Lib.hid hT
  clear X1 X2 X3 B1 B2 B3
  have HE : ∀ (w : World) r, MapAt w r extMap → (Instr.lookup 168 (.map (some r)) (.string (St word)) true).run Tryz.prog w = .ok (.tuple #[Wd 0 false, .bool false]) w := fun w r hat => by rw [ext_run hat, he]; rfl
  have HP : ∀ (w : World) r, MapAt w r partMap → (Instr.lookup 63 (.map (some r)) (.string (St word)) true).run Tryz.prog w = .ok (.tuple #[.int .i64 p, .bool true]) w := fun w r hat => by rw [num_run hat, hp]; rfl
  have HPt := fun w => Lib.hid (parts_any w)
  have hp8 := part_width _ (lookup_mem hp)
  replace hR : X.move C (X.value C m fr (8 * p) false).1 tg (X.value C m fr (8 * p) false).2 p.toNat = R := by rw [← hR, he, hp]
  clear he hp
  simp only at hp8
  have hb8 : 8 * p = 8 ∨ 8 * p = 16 ∨ 8 * p = 32 ∨ 8 * p = 64 := by omega
  obtain ⟨pn, rfl⟩ : ∃ pn : Nat, p = pn := ⟨p.toNat, by omega⟩
  rw [Int.toNat_natCast] at hR
  have hv := value_in64 C m fr ok.oa _ false hb8
  have HV := fun w h => Lib.hid (value_any w0 w L C m vi vo K h fr ok.oa _ false hb8)
  have HWd := fun w => Lib.hid (width_any (pn : Int) false (by omega) (by omega) w)
  obtain ⟨q, hq⟩ : ∃ q, X.value C m fr (8 * (pn : Int)) false = q := ⟨_, rfl⟩
  rw [hq] at hR hv
  simp only [hq] at HV
  have HM := fun w h => Lib.hid (move_any w0 w L C q.1 vi vo K h tg ok.ob q.2 hv pn (by omega))
  replace hR := Lib.hid hR
  clear hq hv hb8 hp8
  go_enter Tryz.func85, Tryz.ntmps85
  go_upto_region 1 with fail
  go_cut [8, 9] (fun s8 s9 wx => ∃ k, s8 = .pointer (some ⟨k, 0, none⟩) ∧ s9 = .bool false ∧ Bx wx k #[.int .i64 (0 : Int), .bool false] 157 ∧ w.heap.size ≤ k ∧ TAt w0 w wx L C m vi vo word (.slice ad n cap) fr tg)
  case first =>
    generalize hG : ((w.alloc (.cells #[.string (St word), .slice ad n cap] 75)).alloc (.cells (oc fr) 118)).alloc (.cells (oc tg) 118) = wg at *
    have hz1 := (hT.out.on (balloc (Below.refl _ _) (.cells #[.int .i64 0, .bool false] 157))).l.cell
    go_region_with (go_at_call 112; refine ((HX _).out).mono ?_; rintro e w1 ⟨r, rfl, hat, hb1⟩; have hB1 : Below wg.heap.size wg w1 := (by (repeat' (first | with_reducible assumption | with_reducible exact Below.refl _ _ | (with_reducible refine below_drewN ?_ _) | (with_reducible refine Below.drew ?_) | (with_reducible refine balloc ?_ _) | (with_reducible refine Below.setCell ?_ (by first | exact Nat.le_refl _ | (simp; done) | omega | (simp; omega)) _) | (with_reducible refine bstep ?_ (by with_reducible assumption))))); have hT1 := hT.out.on hB1; have hy1 := hT1.l.cell; have hy2 := (hT1.on (balloc (Below.refl _ _) (.cells #[.int .i64 0, .bool false] 157))).l.cell; (try (have X8 : Bx w1 wg.heap.size #[.int .i64 0, .bool false] 157 := (by first | exact Bx.below (Bx.new (w := wg)) hb1 | exact Bx.below (Bx.new (w := wg.drew)) hb1 | exact Bx.below (Bx.drew (Bx.new (w := wg))) hb1); have hx8 := X8.cell; have hf8 := X8.frozen)); have hl1 := HE _ _ hat; have hl2 := HE _ _ (hat.alloc hat.lt (.cells #[.int .i64 0, .bool false] 157)))
    all_goals
      go_wp2_with fail
      go_meet
      refine ⟨_, rfl, rfl, ?_, ?_, hT.out.on (by (repeat' (first | with_reducible assumption | with_reducible exact Below.refl _ _ | (with_reducible refine below_drewN ?_ _) | (with_reducible refine Below.drew ?_) | (with_reducible refine balloc ?_ _) | (with_reducible refine Below.setCell ?_ (by first | exact Nat.le_refl _ | (simp; done) | omega | (simp; omega)) _) | (with_reducible refine bstep ?_ (by with_reducible assumption)))))⟩
      · first
          | exact Bx.new
          | exact (Bx.set (i := 1) (v := .bool false) (Bx.set (i := 0) (v := .int .i64 (0 : Int)) X8))
          | exact (Bx.set (i := 1) (v := .bool false) (Bx.set (i := 0) (v := .int .i64 (0 : Int)) (Bx.new (w := w1) (c := #[.int .i64 0, .bool false]) (T := 157))))
          | (trace_state; fail)
      · have := hT.out.kp.size; have := hB1.size; omega
  case rest =>
    obtain ⟨k8, rfl, rfl, X8, hk8, T⟩ := hcut
    clear hx1 hx2 hx3 HX HE
    -- the parts of a register
    go_wp2_with fail
    go_cut [10, 11] (fun s10 s11 wx => s10 = .int .i64 (pn : Int) ∧ s11 = .bool true ∧ TAt w0 w wx L C m vi vo word (.slice ad n cap) fr tg)
    case first =>
      have hz := T.l.cell
      go_region_with (go_at_call 115; refine ((HPt _).out).mono ?_; rintro e w1 ⟨r, rfl, hat, hb1⟩; have hT1 := T.on (undrew hb1); have hy1 := hT1.l.cell; have hl1 := HP _ _ hat)
      all_goals
        go_wp2_with fail
        go_meet
        exact ⟨rfl, rfl, hT1⟩
    case rest =>
      clear T
      obtain ⟨rfl, rfl, T⟩ := hcut
      clear HPt HP
      -- the width, the value, and then the move
      have hyf := T.f.cell
      have hyt := T.t.cell
      go_wp2_with fail
      go_region_with (first | (go_at_call 116; refine ((HWd _).out).mono ?_; rintro e w5 ⟨rfl, hb5⟩; have T5 := T.on (undrew hb5); have hz3 := T5.t.cell; have hz4 := T5.f.cell) | (go_at_call 114; refine ((HV _ ?_).out).mono ?_; exact T5.at_; rintro e w2 ⟨rfl, hM2, hK2⟩; have T2 := T5.turn hS hM2 hK2; have hz1 := T2.t.cell; have hz2 := T2.f.cell) | (go_at_call 113; refine ((HM _ hM2).out).mono ?_; rintro e w3 ⟨rfl, hM3, hK3⟩))
      all_goals
        go_wp2_with fail
        refine bodyPost_ret (v := .tuple #[]) (by simp [results, Tryz.results85, go_sem]) rfl ?_
        rw [← hR.out]
        exact ⟨rfl, hM3, T2.kp.trans hK3⟩
end Go.Proofs.YtfkfdffhajokkaaGreatDoor
/- How package x86's machine does a sum; conditions: a machine that lies in memory, operands as they are read. -/
namespace Go.Proofs.YtfkfdffhajokkaaGreatDoor
open Go.RowKit X
set_option linter.unusedSimpArgs false
set_option maxHeartbeats 8000000 in
set_option maxRecDepth 100000 in
theorem two_sums (w0 w : World) (L : Lay) (C : Cd) (m : Mach) (vi vo : Value) (K : LOk w0 L C) (h : MAt w0 w L C m vi vo) (word : Str) (ad : Option Addr) (n cap : Nat) (fr tg : Opd) (ok : TwoOk word fr tg) (sub : Int) (he : extTab.lookup word = none) (hp : partTab.lookup word = none) (hs : sumTab.lookup word = some sub) :
    Calls Tryz.prog 85 #[.pointer (some ⟨L.mb, 0, none⟩), .agg #[.string (St word), .slice ad n cap], Ov fr, Ov tg] w fun e w' => DoRet w0 w L C vi vo e w' (X.two C m word fr tg) := by
  obtain ⟨R, hR⟩ : ∃ R, X.two C m word fr tg = R := ⟨_, rfl⟩
  rw [hR]
  unfold X.two at hR
  have HX := fun w => Lib.hid (ext_any w)
  have B1 := balloc (Below.refl w.heap.size w) (.cells #[.string (St word), .slice ad n cap] 75)
  have B2 := balloc B1 (.cells (oc fr) 118)
  have B3 := balloc B2 (.cells (oc tg) 118)
  have X1 := ((Bx.new (w := w) (c := #[.string (St word), .slice ad n cap]) (T := 75)).alloc (o := .cells (oc fr) 118)).alloc (o := .cells (oc tg) 118)
  have X2 := (Bx.new (w := (w.alloc (.cells #[.string (St word), .slice ad n cap] 75))) (c := oc fr) (T := 118)).alloc (o := .cells (oc tg) 118)
  have X3 := Bx.new (w := (w.alloc (.cells #[.string (St word), .slice ad n cap] 75)).alloc (.cells (oc fr) 118)) (c := oc tg) (T := 118)
  rw [World.size_alloc] at X2
  rw [World.size_alloc, World.size_alloc] at X3
  have hT : TAt w0 w _ L C m vi vo word (.slice ad n cap) fr tg := ⟨h.on B3, Kp.of_below B3, X1, X2, X3⟩
  have hS : ∀ k, k ∈ L.S → k < w.heap.size := fun k hk => (K.S_lt h k hk).2
  have hx1 := X1.cell
  have hx2 := X2.cell
  have hx3 := X3.cell
  have hT := Lib.hid hT
  clear X1 X2 X3 B1 B2 B3
  have HE : ∀ (w : World) r, MapAt w r extMap → (Instr.lookup 168 (.map (some r)) (.string (St word)) true).run Tryz.prog w = .ok (.tuple #[Wd 0 false, .bool false]) w := fun w r hat => by rw [ext_run hat, he]; rfl
  have HP : ∀ (w : World) r, MapAt w r partMap → (Instr.lookup 63 (.map (some r)) (.string (St word)) true).run Tryz.prog w = .ok (.tuple #[.int .i64 0, .bool false]) w := fun w r hat => by rw [num_run hat, hp]; rfl
  have HPt := fun w => Lib.hid (parts_any w)
  have HSt := fun w => Lib.hid (sums_any w)
  have HS2 : ∀ (w : World) r, MapAt w r sumMap → (Instr.lookup 63 (.map (some r)) (.string (St word)) true).run Tryz.prog w = .ok (.tuple #[.int .i64 sub, .bool true]) w := fun w r hat => by rw [num_run hat, hs]; rfl
  have hsub := sum_sub _ (lookup_mem hs)
  replace hR : X.move C (X.value C m fr 64 true).1 tg (plain sub (m.regs tg.reg.toNat) (X.value C m fr 64 true).2) 8 = R := by rw [← hR, he, hp, hs]
  have hk3 := ok.reg (.inl (by rw [hs]; rfl))
  obtain ⟨hr0, hr1⟩ := ok.ob.reg (.inl hk3)
  have hrl : tg.reg.toNat < 16 := by omega
  clear he hp hs hk3
  simp only at hsub
  have hv := value_in64 C m fr ok.oa 64 true (by omega)
  have HV := fun w h => Lib.hid (value_any w0 w L C m vi vo K h fr ok.oa 64 true (by omega))
  have HQ := fun w => Lib.hid (quad_any w)
  have hqr := congrFun (value_regs C m fr 64 true) tg.reg.toNat
  obtain ⟨q, hq⟩ : ∃ q, X.value C m fr 64 true = q := ⟨_, rfl⟩
  rw [hq] at hR hv hqr
  simp only [hq] at HV
  have hpl := plain_in64 sub (m.regs tg.reg.toNat) q.2 (h.ok.regs _ hrl)
  have HPl := fun w => Lib.hid (plain_sum sub hsub (m.regs tg.reg.toNat) q.2 (h.ok.regs _ hrl) hv w)
  obtain ⟨pl, hpp⟩ : ∃ pl, plain sub (m.regs tg.reg.toNat) q.2 = pl := ⟨_, rfl⟩
  rw [hpp] at hR hpl HPl
  have HM := fun w h => Lib.hid (move_any w0 w L C q.1 vi vo K h tg ok.ob pl hpl 8 (by decide))
  replace hR := Lib.hid hR
  clear hq hv hsub hpp hpl
  go_enter Tryz.func85, Tryz.ntmps85
  go_upto_region 1 with fail
  go_cut [8, 9] (fun s8 s9 wx => ∃ k, s8 = .pointer (some ⟨k, 0, none⟩) ∧ s9 = .bool false ∧ Bx wx k #[.int .i64 (0 : Int), .bool false] 157 ∧ w.heap.size ≤ k ∧ TAt w0 w wx L C m vi vo word (.slice ad n cap) fr tg)
  case first =>
    generalize hG : ((w.alloc (.cells #[.string (St word), .slice ad n cap] 75)).alloc (.cells (oc fr) 118)).alloc (.cells (oc tg) 118) = wg at *
    have hz1 := (hT.out.on (balloc (Below.refl _ _) (.cells #[.int .i64 0, .bool false] 157))).l.cell
    go_region_with (go_at_call 112; refine ((HX _).out).mono ?_; rintro e w1 ⟨r, rfl, hat, hb1⟩; have hB1 : Below wg.heap.size wg w1 := (by (repeat' (first | with_reducible assumption | with_reducible exact Below.refl _ _ | (with_reducible refine below_drewN ?_ _) | (with_reducible refine Below.drew ?_) | (with_reducible refine balloc ?_ _) | (with_reducible refine Below.setCell ?_ (by first | exact Nat.le_refl _ | (simp; done) | omega | (simp; omega)) _) | (with_reducible refine bstep ?_ (by with_reducible assumption))))); have hT1 := hT.out.on hB1; have hy1 := hT1.l.cell; have hy2 := (hT1.on (balloc (Below.refl _ _) (.cells #[.int .i64 0, .bool false] 157))).l.cell; (try (have X8 : Bx w1 wg.heap.size #[.int .i64 0, .bool false] 157 := (by first | exact Bx.below (Bx.new (w := wg)) hb1 | exact Bx.below (Bx.new (w := wg.drew)) hb1 | exact Bx.below (Bx.drew (Bx.new (w := wg))) hb1); have hx8 := X8.cell; have hf8 := X8.frozen)); have hl1 := HE _ _ hat; have hl2 := HE _ _ (hat.alloc hat.lt (.cells #[.int .i64 0, .bool false] 157)))
    all_goals
      go_wp2_with fail
      go_meet
      refine ⟨_, rfl, rfl, ?_, ?_, hT.out.on (by (repeat' (first | with_reducible assumption | with_reducible exact Below.refl _ _ | (with_reducible refine below_drewN ?_ _) | (with_reducible refine Below.drew ?_) | (with_reducible refine balloc ?_ _) | (with_reducible refine Below.setCell ?_ (by first | exact Nat.le_refl _ | (simp; done) | omega | (simp; omega)) _) | (with_reducible refine bstep ?_ (by with_reducible assumption)))))⟩
      · first
          | exact Bx.new
          | exact (Bx.set (i := 1) (v := .bool false) (Bx.set (i := 0) (v := .int .i64 (0 : Int)) X8))
          | exact (Bx.set (i := 1) (v := .bool false) (Bx.set (i := 0) (v := .int .i64 (0 : Int)) (Bx.new (w := w1) (c := #[.int .i64 0, .bool false]) (T := 157))))
          | (trace_state; fail)
      · have := hT.out.kp.size; have := hB1.size; omega
  case rest =>
    obtain ⟨k8, rfl, rfl, X8, hk8, T⟩ := hcut
    clear hx1 hx2 hx3 HX HE
    -- the parts of a register
    go_wp2_with fail
    go_cut [10, 11] (fun s10 s11 wx => s10 = .int .i64 (0 : Int) ∧ s11 = .bool false ∧ TAt w0 w wx L C m vi vo word (.slice ad n cap) fr tg)
    case first =>
      have hz := T.l.cell
      go_region_with (go_at_call 115; refine ((HPt _).out).mono ?_; rintro e w1 ⟨r, rfl, hat, hb1⟩; have hT1 := T.on (undrew hb1); have hy1 := hT1.l.cell; have hl1 := HP _ _ hat)
      all_goals
        go_wp2_with fail
        go_meet
        exact ⟨rfl, rfl, hT1⟩
    case rest =>
      clear T
      obtain ⟨rfl, rfl, T⟩ := hcut
      clear HPt HP
      -- the sums
      go_wp2_with fail
      go_cut [12, 13] (fun s12 s13 wx => s12 = .int .i64 sub ∧ s13 = .bool true ∧ TAt w0 w wx L C m vi vo word (.slice ad n cap) fr tg)
      case first =>
        have hz := T.l.cell
        go_region_with (go_at_call 117; refine ((HSt _).out).mono ?_; rintro e w1 ⟨r, rfl, hat, hb1⟩; have hT1 := T.on (undrew hb1); have hy1 := hT1.l.cell; have hl1 := HS2 _ _ hat)
        all_goals
          go_wp2_with fail
          go_meet
          exact ⟨rfl, rfl, hT1⟩
      case rest =>
        clear T
        obtain ⟨rfl, rfl, T⟩ := hcut
        clear HSt HS2
        -- the other number, the sum, and then the move
        go_wp2_with fail
        go_cut [14, 15] (fun s14 s15 wx => s14 = .int .i64 pl ∧ s15 = .bool true ∧ TAt w0 w wx L C q.1 vi vo word (.slice ad n cap) fr tg)
        case first =>
          go_region_held3 (fun w' => w'.cell? ⟨w.heap.size + 1 + 1, 1, none⟩ = some (.int .i64 tg.reg) ∧ w'.cell? ⟨L.mb, 1 + tg.reg.toNat, none⟩ = some (.int .i64 (m.regs tg.reg.toNat)) ∧ w'.cell? ⟨w.heap.size + 1, 0, none⟩ = some (.int .i64 fr.kind) ∧ w'.cell? ⟨w.heap.size + 1, 1, none⟩ = some (.int .i64 fr.reg) ∧ w'.cell? ⟨w.heap.size + 1, 2, none⟩ = some (.int .i64 fr.bytes) ∧ w'.cell? ⟨w.heap.size + 1, 3, none⟩ = some (.int .i64 fr.n) ∧ w'.cell? ⟨w.heap.size + 1, 4, none⟩ = some (.int .i64 fr.x) ∧ w'.cell? ⟨w.heap.size + 1, 5, none⟩ = some (.int .i64 fr.scale) ∧ w'.cell? ⟨w.heap.size + 1, 6, none⟩ = some (.string (St fr.name))) (first | exact (T.on (Below.drew (Below.refl _ _))).held hrl rfl | exact T5.held hrl rfl | exact T2.held hrl hqr | exact T6.held hrl hqr) (first | (go_at_call 119; refine ((HQ _).out).mono ?_; rintro e w5 ⟨rfl, hb5⟩; have T5 := T.on (undrew hb5)) | (go_at_call 114; refine ((HV _ ?_).out).mono ?_; exact T5.at_; rintro e w2 ⟨rfl, hM2, hK2⟩; have T2 := T5.turn hS hM2 hK2) | (go_at_call 118; refine ((HPl _).out).mono ?_; rintro e w6 ⟨rfl, hb6⟩; have T6 := T2.on hb6))
          all_goals
            go_wp2_with fail
            go_meet
            exact ⟨rfl, rfl, T6⟩
        case rest =>
          clear T
          obtain ⟨rfl, rfl, T⟩ := hcut
          have hyt := T.t.cell
          clear HV HPl HQ
          go_wp2_with fail
          refine ((HM _ T.at_).out).mono ?_
          rintro e w3 ⟨rfl, hM3, hK3⟩
          go_wp2_with fail
          refine bodyPost_ret (v := .tuple #[]) (by simp [results, Tryz.results85, go_sem]) rfl ?_
          rw [← hR.out]
          exact ⟨rfl, hM3, T.kp.trans hK3⟩
end Go.Proofs.YtfkfdffhajokkaaGreatDoor
