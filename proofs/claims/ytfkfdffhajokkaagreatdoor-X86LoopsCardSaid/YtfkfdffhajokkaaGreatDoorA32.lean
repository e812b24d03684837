/- How package x86's machine does instructions without operands; conditions: a machine that lies in memory, lines as they are read. -/
import Derived.Test.YtfkfdffhajokkaaGreatDoorA31
namespace Go.Proofs.YtfkfdffhajokkaaGreatDoor
open Go.RowKit X
set_option linter.unusedSimpArgs false
/-- What a step answers. -/
def StpRet (w0 : World) (L : Lay) (C : Cd) (e : Ending) (w' : World) (m' : Mach) : Prop :=
  e = .returned (.tuple #[]) ∧ ∃ vi vo, MAt w0 w' L C m' vi vo
set_option maxHeartbeats 4000000 in
set_option maxRecDepth 100000 in
theorem step_ret0 (w0 w : World) (L : Lay) (C : Cd) (m : Mach) (vi vo : Value) (K : LOk w0 L C) (h : MAt w0 w L C m vi vo) (i : Nat) (hat : m.at_ = i) (hi : i < C.lines.length) (l : Ln) (hl : C.lines.getD i ⟨[], []⟩ = l) (n1 : l.ops.length ≠ 1) (n2 : l.ops.length ≠ 2) (hw : l.word = [114, 101, 116]) (hz : (X.pop C { m with at_ := (i : Int) + 1 }).2 = 0 ∧ (X.pop C { m with at_ := (i : Int) + 1 }).1.kind = 0) :
    Calls Tryz.prog 55 #[.pointer (some ⟨L.mb, 0, none⟩)] w fun e w' => StpRet w0 L C e w' (X.none' C { m with at_ := (i : Int) + 1 } l.word) := by
  obtain ⟨R, hR⟩ : ∃ R, X.none' C { m with at_ := (i : Int) + 1 } l.word = R := ⟨_, rfl⟩
  rw [hR]
  have z1 := Lib.hid (show ((l.ops.length : Int) == 1) = false from beq_f (by omega))
  have z2 := Lib.hid (show ((l.ops.length : Int) == 2) = false from beq_f (by omega))
  clear n1 n2
  unfold X.none' at hR; rw [if_pos hw] at hR
  have t0 := Lib.hid (show (l.word == [114, 101, 116]) = true from beq_iff_eq.2 hw)
  obtain ⟨q, hq⟩ : ∃ q, X.pop C { m with at_ := (i : Int) + 1 } = q := ⟨_, rfl⟩
  replace hR : (if (X.pop C { m with at_ := (i : Int) + 1 }).2 = 0 ∧ (X.pop C { m with at_ := (i : Int) + 1 }).1.kind = 0 then halt (X.pop C { m with at_ := (i : Int) + 1 }).1 1 ((X.pop C { m with at_ := (i : Int) + 1 }).1.regs 0) else leap C (X.pop C { m with at_ := (i : Int) + 1 }).1 (X.pop C { m with at_ := (i : Int) + 1 }).2) = R := hR
  rw [if_pos hz, hq] at hR
  have HP := fun w h => Lib.hid (pop_any w0 w L C { m with at_ := (i : Int) + 1 } vi vo K h)
  simp only [hq] at HP
  rw [hq] at hz
  obtain ⟨hz1, hz2⟩ := hz
  replace hR := Lib.hid hR
  replace hz1 := Lib.hid hz1
  replace hz2 := Lib.hid hz2
  clear hq
  clear hw
  obtain ⟨g, cap, v, LA0⟩ := line_at K hi
  rw [hl] at LA0
  obtain ⟨BL, hops⟩ := LA0.ops
  obtain ⟨adv, capv, rfl, -⟩ := ownsRow_at hops
  have LA := LA0.below h.below
  have hx := h.box.cell
  have hf := h.box.frozen
  have hmb := h.box.lt
  have hrows := LA.rows
  have hword := LA.word
  have hv := LA.vcell
  have hi' : (i : Int) < (C.lines.length : Int) := by omega
  have hln := K.lines
  have hwr : IntKind.i64.wrap ((i : Int) + 1) = (i : Int) + 1 := by rw [IntKind.wrap_i64]; omega
  have hh := Lib.hid h
  have hc0 : w.cell? ⟨L.mb, 0, none⟩ = some (.pointer (some ⟨L.p, 0, none⟩)) := by rw [hx]; rfl
  have hc17 : w.cell? ⟨L.mb, 17, none⟩ = some (.int .i64 (i : Int)) := by rw [hx, ← hat]; rfl
  clear hx
  go_enter Tryz.func55, Tryz.ntmps55
  go_wp2_with fail
  go_quiet (fail)
  go_wp2_with fail
  go_cut [2] (fun s2 wx => s2 = .pointer (some ⟨w.heap.size, 0, none⟩) ∧ Bx wx w.heap.size #[.string (St l.word), .slice adv l.ops.length capv] 75 ∧ MAt w0 wx L C m vi vo ∧ Kp L.S w wx)
  case first =>
    have hnb : ∀ (k j : Nat), ((w.drewN k).alloc (.cells #[.string ⟨#[]⟩, .slice none 0 0] 75)).cell? ⟨w.heap.size, j, none⟩ = (#[.string ⟨#[]⟩, .slice none 0 0] : Array Value)[j]? := fun k j => (Bx.new (w := w.drewN k) (c := #[.string ⟨#[]⟩, .slice none 0 0]) (T := 75)).cell j
    have hnf : ∀ (k j : Nat), ((w.drewN k).alloc (.cells #[.string ⟨#[]⟩, .slice none 0 0] 75)).frozen? ⟨w.heap.size, j, none⟩ = false := fun k j => (Bx.new (w := w.drewN k) (c := #[.string ⟨#[]⟩, .slice none 0 0]) (T := 75)).frozen j
    go_region_held3 (fun w' => w'.cell? ⟨L.mb, 0, none⟩ = some (.pointer (some ⟨L.p, 0, none⟩)) ∧ w'.cell? ⟨L.mb, 17, none⟩ = some (.int .i64 (i : Int)) ∧ w'.cell? ⟨L.p, 1, none⟩ = some (.slice (some ⟨g, 0, none⟩) C.lines.length cap) ∧ w'.cell? ⟨g, i * 2, none⟩ = some (.string (St l.word)) ∧ w'.cell? ⟨g, i * 2 + 1, none⟩ = some (.slice adv l.ops.length capv)) ((refine fetch_held (hh.out.on ?_) (LA.below ?_) hat; all_goals ((repeat' (first | with_reducible assumption | with_reducible exact Below.refl _ _ | (with_reducible refine below_drewN ?_ _) | (with_reducible refine Below.drew ?_) | (with_reducible refine balloc ?_ _) | (with_reducible refine Below.setCell ?_ (by first | exact Nat.le_refl _ | (simp; done) | omega | (simp; omega)) _) | (with_reducible refine bstep ?_ (by with_reducible assumption))))))) (fail)
    all_goals
      go_wp2_with fail
      go_meet
      refine ⟨rfl, ?_, ?_, ?_⟩
      · exact Bx.set (i := 1) (v := .slice adv l.ops.length capv) (Bx.set (i := 0) (v := .string (St l.word)) (Bx.new (w := w.drewN (nq + 1)) (c := #[.string ⟨#[]⟩, .slice none 0 0]) (T := 75)))
      · exact hh.out.on (by (repeat' (first | with_reducible assumption | with_reducible exact Below.refl _ _ | (with_reducible refine below_drewN ?_ _) | (with_reducible refine Below.drew ?_) | (with_reducible refine balloc ?_ _) | (with_reducible refine Below.setCell ?_ (by first | exact Nat.le_refl _ | (simp; done) | omega | (simp; omega)) _) | (with_reducible refine bstep ?_ (by with_reducible assumption)))))
      · exact Kp.of_below (by (repeat' (first | with_reducible assumption | with_reducible exact Below.refl _ _ | (with_reducible refine below_drewN ?_ _) | (with_reducible refine Below.drew ?_) | (with_reducible refine balloc ?_ _) | (with_reducible refine Below.setCell ?_ (by first | exact Nat.le_refl _ | (simp; done) | omega | (simp; omega)) _) | (with_reducible refine bstep ?_ (by with_reducible assumption)))))
  case rest =>
    obtain ⟨rfl, X2, M2, K2⟩ := hcut
    clear hc0 hc17 hrows hword hv hf hh LA
    have hf2 := M2.box.frozen
    have hne2 : w.heap.size ≠ L.mb := by omega
    have hc17b : wc.cell? ⟨L.mb, 17, none⟩ = some (.int .i64 (i : Int)) := by rw [M2.box.cell, ← hat]; rfl
    have A1 := M2.put (m' := { m with at_ := (i : Int) + 1 }) K 17 (.int .i64 ((i : Int) + 1)) rfl M2.inp rfl rfl rfl rfl ⟨M2.ok.regs, M2.ok.x, M2.ok.y, by simp only; omega, by simp only; omega, M2.ok.kind, M2.ok.code, M2.ok.least⟩
    have X3 : Bx (wc.setCell ⟨L.mb, 17, none⟩ (.int .i64 ((i : Int) + 1))) w.heap.size #[.string (St l.word), .slice adv l.ops.length capv] 75 := X2.other hne2
    have K3 : Kp L.S w (wc.setCell ⟨L.mb, 17, none⟩ (.int .i64 ((i : Int) + 1))) := K2.setCell _ (.inl L.mb_S)
    have A1 := Lib.hid A1
    have X3 := Lib.hid X3
    have K3 := Lib.hid K3
    clear X2 M2 K2
    go_upto_region 4 with fail
    generalize wc.setCell ⟨L.mb, 17, none⟩ (.int .i64 ((i : Int) + 1)) = wd at *
    clear hf2 hc17b
    have A1 := A1.out
    have X3 := X3.out
    have LA := LA0.below A1.below
    obtain ⟨BD, hopd⟩ := LA.ops
    have hx3 := X3.cell
    replace z1 := z1.out
    replace z2 := z2.out
    replace t0 := t0.out
    go_wp2_with fail
    refine ((HP _ A1).out).mono ?_
    rintro e w1 ⟨rfl, hM1, hK1⟩
    have hx1 := hM1.box.cell
    have HE := fun w h => Lib.hid (end_any w0 w L C q.1 vi vo K h 1 (q.1.regs 0) (by omega))
    replace hz1 := hz1.out
    replace hz2 := hz2.out
    have hz3 : (q.2 == 0) = true := beq_iff_eq.2 hz1
    have hz4 : (q.1.kind == 0) = true := beq_iff_eq.2 hz2
    clear hz1 hz2
    go_wp2_with fail
    refine ((HE _ hM1).out).mono ?_
    rintro e w2 ⟨rfl, hM2, hK2⟩
    go_wp2_with fail
    refine bodyPost_ret (v := .tuple #[]) (by simp [results, Tryz.results55, go_sem]) rfl ?_
    rw [← hR.out]
    exact ⟨rfl, _, _, hM2⟩
set_option maxHeartbeats 4000000 in
set_option maxRecDepth 100000 in
theorem step_ret1 (w0 w : World) (L : Lay) (C : Cd) (m : Mach) (vi vo : Value) (K : LOk w0 L C) (h : MAt w0 w L C m vi vo) (i : Nat) (hat : m.at_ = i) (hi : i < C.lines.length) (l : Ln) (hl : C.lines.getD i ⟨[], []⟩ = l) (n1 : l.ops.length ≠ 1) (n2 : l.ops.length ≠ 2) (hw : l.word = [114, 101, 116]) (hz : ¬ ((X.pop C { m with at_ := (i : Int) + 1 }).2 = 0 ∧ (X.pop C { m with at_ := (i : Int) + 1 }).1.kind = 0)) :
    Calls Tryz.prog 55 #[.pointer (some ⟨L.mb, 0, none⟩)] w fun e w' => StpRet w0 L C e w' (X.none' C { m with at_ := (i : Int) + 1 } l.word) := by
  obtain ⟨R, hR⟩ : ∃ R, X.none' C { m with at_ := (i : Int) + 1 } l.word = R := ⟨_, rfl⟩
  rw [hR]
  have z1 := Lib.hid (show ((l.ops.length : Int) == 1) = false from beq_f (by omega))
  have z2 := Lib.hid (show ((l.ops.length : Int) == 2) = false from beq_f (by omega))
  clear n1 n2
  unfold X.none' at hR; rw [if_pos hw] at hR
  have t0 := Lib.hid (show (l.word == [114, 101, 116]) = true from beq_iff_eq.2 hw)
  obtain ⟨q, hq⟩ : ∃ q, X.pop C { m with at_ := (i : Int) + 1 } = q := ⟨_, rfl⟩
  replace hR : (if (X.pop C { m with at_ := (i : Int) + 1 }).2 = 0 ∧ (X.pop C { m with at_ := (i : Int) + 1 }).1.kind = 0 then halt (X.pop C { m with at_ := (i : Int) + 1 }).1 1 ((X.pop C { m with at_ := (i : Int) + 1 }).1.regs 0) else leap C (X.pop C { m with at_ := (i : Int) + 1 }).1 (X.pop C { m with at_ := (i : Int) + 1 }).2) = R := hR
  rw [if_neg hz, hq] at hR
  have HP := fun w h => Lib.hid (pop_any w0 w L C { m with at_ := (i : Int) + 1 } vi vo K h)
  simp only [hq] at HP
  rw [hq] at hz
  replace hR := Lib.hid hR
  replace hz := Lib.hid hz
  clear hq
  clear hw
  obtain ⟨g, cap, v, LA0⟩ := line_at K hi
  rw [hl] at LA0
  obtain ⟨BL, hops⟩ := LA0.ops
  obtain ⟨adv, capv, rfl, -⟩ := ownsRow_at hops
  have LA := LA0.below h.below
  have hx := h.box.cell
  have hf := h.box.frozen
  have hmb := h.box.lt
  have hrows := LA.rows
  have hword := LA.word
  have hv := LA.vcell
  have hi' : (i : Int) < (C.lines.length : Int) := by omega
  have hln := K.lines
  have hwr : IntKind.i64.wrap ((i : Int) + 1) = (i : Int) + 1 := by rw [IntKind.wrap_i64]; omega
  have hh := Lib.hid h
  have hc0 : w.cell? ⟨L.mb, 0, none⟩ = some (.pointer (some ⟨L.p, 0, none⟩)) := by rw [hx]; rfl
  have hc17 : w.cell? ⟨L.mb, 17, none⟩ = some (.int .i64 (i : Int)) := by rw [hx, ← hat]; rfl
  clear hx
  go_enter Tryz.func55, Tryz.ntmps55
  go_wp2_with fail
  go_quiet (fail)
  go_wp2_with fail
  go_cut [2] (fun s2 wx => s2 = .pointer (some ⟨w.heap.size, 0, none⟩) ∧ Bx wx w.heap.size #[.string (St l.word), .slice adv l.ops.length capv] 75 ∧ MAt w0 wx L C m vi vo ∧ Kp L.S w wx)
  case first =>
    have hnb : ∀ (k j : Nat), ((w.drewN k).alloc (.cells #[.string ⟨#[]⟩, .slice none 0 0] 75)).cell? ⟨w.heap.size, j, none⟩ = (#[.string ⟨#[]⟩, .slice none 0 0] : Array Value)[j]? := fun k j => (Bx.new (w := w.drewN k) (c := #[.string ⟨#[]⟩, .slice none 0 0]) (T := 75)).cell j
    have hnf : ∀ (k j : Nat), ((w.drewN k).alloc (.cells #[.string ⟨#[]⟩, .slice none 0 0] 75)).frozen? ⟨w.heap.size, j, none⟩ = false := fun k j => (Bx.new (w := w.drewN k) (c := #[.string ⟨#[]⟩, .slice none 0 0]) (T := 75)).frozen j
    go_region_held3 (fun w' => w'.cell? ⟨L.mb, 0, none⟩ = some (.pointer (some ⟨L.p, 0, none⟩)) ∧ w'.cell? ⟨L.mb, 17, none⟩ = some (.int .i64 (i : Int)) ∧ w'.cell? ⟨L.p, 1, none⟩ = some (.slice (some ⟨g, 0, none⟩) C.lines.length cap) ∧ w'.cell? ⟨g, i * 2, none⟩ = some (.string (St l.word)) ∧ w'.cell? ⟨g, i * 2 + 1, none⟩ = some (.slice adv l.ops.length capv)) ((refine fetch_held (hh.out.on ?_) (LA.below ?_) hat; all_goals ((repeat' (first | with_reducible assumption | with_reducible exact Below.refl _ _ | (with_reducible refine below_drewN ?_ _) | (with_reducible refine Below.drew ?_) | (with_reducible refine balloc ?_ _) | (with_reducible refine Below.setCell ?_ (by first | exact Nat.le_refl _ | (simp; done) | omega | (simp; omega)) _) | (with_reducible refine bstep ?_ (by with_reducible assumption))))))) (fail)
    all_goals
      go_wp2_with fail
      go_meet
      refine ⟨rfl, ?_, ?_, ?_⟩
      · exact Bx.set (i := 1) (v := .slice adv l.ops.length capv) (Bx.set (i := 0) (v := .string (St l.word)) (Bx.new (w := w.drewN (nq + 1)) (c := #[.string ⟨#[]⟩, .slice none 0 0]) (T := 75)))
      · exact hh.out.on (by (repeat' (first | with_reducible assumption | with_reducible exact Below.refl _ _ | (with_reducible refine below_drewN ?_ _) | (with_reducible refine Below.drew ?_) | (with_reducible refine balloc ?_ _) | (with_reducible refine Below.setCell ?_ (by first | exact Nat.le_refl _ | (simp; done) | omega | (simp; omega)) _) | (with_reducible refine bstep ?_ (by with_reducible assumption)))))
      · exact Kp.of_below (by (repeat' (first | with_reducible assumption | with_reducible exact Below.refl _ _ | (with_reducible refine below_drewN ?_ _) | (with_reducible refine Below.drew ?_) | (with_reducible refine balloc ?_ _) | (with_reducible refine Below.setCell ?_ (by first | exact Nat.le_refl _ | (simp; done) | omega | (simp; omega)) _) | (with_reducible refine bstep ?_ (by with_reducible assumption)))))
  case rest =>
    obtain ⟨rfl, X2, M2, K2⟩ := hcut
    clear hc0 hc17 hrows hword hv hf hh LA
    have hf2 := M2.box.frozen
    have hne2 : w.heap.size ≠ L.mb := by omega
    have hc17b : wc.cell? ⟨L.mb, 17, none⟩ = some (.int .i64 (i : Int)) := by rw [M2.box.cell, ← hat]; rfl
    have A1 := M2.put (m' := { m with at_ := (i : Int) + 1 }) K 17 (.int .i64 ((i : Int) + 1)) rfl M2.inp rfl rfl rfl rfl ⟨M2.ok.regs, M2.ok.x, M2.ok.y, by simp only; omega, by simp only; omega, M2.ok.kind, M2.ok.code, M2.ok.least⟩
    have X3 : Bx (wc.setCell ⟨L.mb, 17, none⟩ (.int .i64 ((i : Int) + 1))) w.heap.size #[.string (St l.word), .slice adv l.ops.length capv] 75 := X2.other hne2
    have K3 : Kp L.S w (wc.setCell ⟨L.mb, 17, none⟩ (.int .i64 ((i : Int) + 1))) := K2.setCell _ (.inl L.mb_S)
    have A1 := Lib.hid A1
    have X3 := Lib.hid X3
    have K3 := Lib.hid K3
    clear X2 M2 K2
    go_upto_region 4 with fail
    generalize wc.setCell ⟨L.mb, 17, none⟩ (.int .i64 ((i : Int) + 1)) = wd at *
    clear hf2 hc17b
    have A1 := A1.out
    have X3 := X3.out
    have LA := LA0.below A1.below
    obtain ⟨BD, hopd⟩ := LA.ops
    have hx3 := X3.cell
    replace z1 := z1.out
    replace z2 := z2.out
    replace t0 := t0.out
    go_wp2_with fail
    refine ((HP _ A1).out).mono ?_
    rintro e w1 ⟨rfl, hM1, hK1⟩
    have hx1 := hM1.box.cell
    have HL := fun w h => Lib.hid (leap_any w0 w L C q.1 vi vo K h q.2)
    have key : ∀ b1 b2 : Bool, (q.2 == 0) = b1 → (q.1.kind == 0) = b2 → (b1 && b2) = false := by
      rintro b1 b2 rfl rfl
      rw [Bool.eq_false_iff, ne_eq, Bool.and_eq_true, beq_iff_eq, beq_iff_eq]
      exact hz.out
    clear hz
    cases hz3 : (q.2 == 0) with
    | false =>
      clear key
      go_wp2_with fail
      refine ((HL _ hM1).out).mono ?_
      rintro e w2 ⟨rfl, hM2, hK2⟩
      go_wp2_with fail
      refine bodyPost_end (v := .tuple #[]) (by simp [results, Tryz.results55, go_sem]) rfl ?_
      rw [← hR.out]
      exact ⟨rfl, _, _, hM2⟩
    | true =>
      have hz4 : (q.1.kind == 0) = false := by have := key _ _ hz3 rfl; simpa using this
      clear key
      go_wp2_with fail
      refine ((HL _ hM1).out).mono ?_
      rintro e w2 ⟨rfl, hM2, hK2⟩
      go_wp2_with fail
      refine bodyPost_end (v := .tuple #[]) (by simp [results, Tryz.results55, go_sem]) rfl ?_
      rw [← hR.out]
      exact ⟨rfl, _, _, hM2⟩
set_option maxHeartbeats 4000000 in
set_option maxRecDepth 100000 in
theorem step_cqto (w0 w : World) (L : Lay) (C : Cd) (m : Mach) (vi vo : Value) (K : LOk w0 L C) (h : MAt w0 w L C m vi vo) (i : Nat) (hat : m.at_ = i) (hi : i < C.lines.length) (l : Ln) (hl : C.lines.getD i ⟨[], []⟩ = l) (n1 : l.ops.length ≠ 1) (n2 : l.ops.length ≠ 2) (hw : l.word = [99, 113, 116, 111]) :
    Calls Tryz.prog 55 #[.pointer (some ⟨L.mb, 0, none⟩)] w fun e w' => StpRet w0 L C e w' (X.none' C { m with at_ := (i : Int) + 1 } l.word) := by
  obtain ⟨R, hR⟩ : ∃ R, X.none' C { m with at_ := (i : Int) + 1 } l.word = R := ⟨_, rfl⟩
  rw [hR]
  have z1 := Lib.hid (show ((l.ops.length : Int) == 1) = false from beq_f (by omega))
  have z2 := Lib.hid (show ((l.ops.length : Int) == 2) = false from beq_f (by omega))
  clear n1 n2
  unfold X.none' at hR; rw [if_neg (by rw [hw]; decide), if_pos hw] at hR
  have t0 := Lib.hid (show (l.word == [114, 101, 116]) = false from neq_beq (by rw [hw]; decide))
  have t1 := Lib.hid (show (l.word == [99, 113, 116, 111]) = true from beq_iff_eq.2 hw)
  replace hR := Lib.hid hR
  have hd := div_in64 (h.ok.regs 0 (by decide)) (show (1 : Int) ≤ 2 ^ 63 by decide)
  clear hw
  obtain ⟨g, cap, v, LA0⟩ := line_at K hi
  rw [hl] at LA0
  obtain ⟨BL, hops⟩ := LA0.ops
  obtain ⟨adv, capv, rfl, -⟩ := ownsRow_at hops
  have LA := LA0.below h.below
  have hx := h.box.cell
  have hf := h.box.frozen
  have hmb := h.box.lt
  have hrows := LA.rows
  have hword := LA.word
  have hv := LA.vcell
  have hi' : (i : Int) < (C.lines.length : Int) := by omega
  have hln := K.lines
  have hwr : IntKind.i64.wrap ((i : Int) + 1) = (i : Int) + 1 := by rw [IntKind.wrap_i64]; omega
  have hh := Lib.hid h
  have hc0 : w.cell? ⟨L.mb, 0, none⟩ = some (.pointer (some ⟨L.p, 0, none⟩)) := by rw [hx]; rfl
  have hc17 : w.cell? ⟨L.mb, 17, none⟩ = some (.int .i64 (i : Int)) := by rw [hx, ← hat]; rfl
  clear hx
  go_enter Tryz.func55, Tryz.ntmps55
  go_wp2_with fail
  go_quiet (fail)
  go_wp2_with fail
  go_cut [2] (fun s2 wx => s2 = .pointer (some ⟨w.heap.size, 0, none⟩) ∧ Bx wx w.heap.size #[.string (St l.word), .slice adv l.ops.length capv] 75 ∧ MAt w0 wx L C m vi vo ∧ Kp L.S w wx)
  case first =>
    have hnb : ∀ (k j : Nat), ((w.drewN k).alloc (.cells #[.string ⟨#[]⟩, .slice none 0 0] 75)).cell? ⟨w.heap.size, j, none⟩ = (#[.string ⟨#[]⟩, .slice none 0 0] : Array Value)[j]? := fun k j => (Bx.new (w := w.drewN k) (c := #[.string ⟨#[]⟩, .slice none 0 0]) (T := 75)).cell j
    have hnf : ∀ (k j : Nat), ((w.drewN k).alloc (.cells #[.string ⟨#[]⟩, .slice none 0 0] 75)).frozen? ⟨w.heap.size, j, none⟩ = false := fun k j => (Bx.new (w := w.drewN k) (c := #[.string ⟨#[]⟩, .slice none 0 0]) (T := 75)).frozen j
    go_region_held3 (fun w' => w'.cell? ⟨L.mb, 0, none⟩ = some (.pointer (some ⟨L.p, 0, none⟩)) ∧ w'.cell? ⟨L.mb, 17, none⟩ = some (.int .i64 (i : Int)) ∧ w'.cell? ⟨L.p, 1, none⟩ = some (.slice (some ⟨g, 0, none⟩) C.lines.length cap) ∧ w'.cell? ⟨g, i * 2, none⟩ = some (.string (St l.word)) ∧ w'.cell? ⟨g, i * 2 + 1, none⟩ = some (.slice adv l.ops.length capv)) ((refine fetch_held (hh.out.on ?_) (LA.below ?_) hat; all_goals ((repeat' (first | with_reducible assumption | with_reducible exact Below.refl _ _ | (with_reducible refine below_drewN ?_ _) | (with_reducible refine Below.drew ?_) | (with_reducible refine balloc ?_ _) | (with_reducible refine Below.setCell ?_ (by first | exact Nat.le_refl _ | (simp; done) | omega | (simp; omega)) _) | (with_reducible refine bstep ?_ (by with_reducible assumption))))))) (fail)
    all_goals
      go_wp2_with fail
      go_meet
      refine ⟨rfl, ?_, ?_, ?_⟩
      · exact Bx.set (i := 1) (v := .slice adv l.ops.length capv) (Bx.set (i := 0) (v := .string (St l.word)) (Bx.new (w := w.drewN (nq + 1)) (c := #[.string ⟨#[]⟩, .slice none 0 0]) (T := 75)))
      · exact hh.out.on (by (repeat' (first | with_reducible assumption | with_reducible exact Below.refl _ _ | (with_reducible refine below_drewN ?_ _) | (with_reducible refine Below.drew ?_) | (with_reducible refine balloc ?_ _) | (with_reducible refine Below.setCell ?_ (by first | exact Nat.le_refl _ | (simp; done) | omega | (simp; omega)) _) | (with_reducible refine bstep ?_ (by with_reducible assumption)))))
      · exact Kp.of_below (by (repeat' (first | with_reducible assumption | with_reducible exact Below.refl _ _ | (with_reducible refine below_drewN ?_ _) | (with_reducible refine Below.drew ?_) | (with_reducible refine balloc ?_ _) | (with_reducible refine Below.setCell ?_ (by first | exact Nat.le_refl _ | (simp; done) | omega | (simp; omega)) _) | (with_reducible refine bstep ?_ (by with_reducible assumption)))))
  case rest =>
    obtain ⟨rfl, X2, M2, K2⟩ := hcut
    clear hc0 hc17 hrows hword hv hf hh LA
    have hf2 := M2.box.frozen
    have hne2 : w.heap.size ≠ L.mb := by omega
    have hc17b : wc.cell? ⟨L.mb, 17, none⟩ = some (.int .i64 (i : Int)) := by rw [M2.box.cell, ← hat]; rfl
    have A1 := M2.put (m' := { m with at_ := (i : Int) + 1 }) K 17 (.int .i64 ((i : Int) + 1)) rfl M2.inp rfl rfl rfl rfl ⟨M2.ok.regs, M2.ok.x, M2.ok.y, by simp only; omega, by simp only; omega, M2.ok.kind, M2.ok.code, M2.ok.least⟩
    have X3 : Bx (wc.setCell ⟨L.mb, 17, none⟩ (.int .i64 ((i : Int) + 1))) w.heap.size #[.string (St l.word), .slice adv l.ops.length capv] 75 := X2.other hne2
    have K3 : Kp L.S w (wc.setCell ⟨L.mb, 17, none⟩ (.int .i64 ((i : Int) + 1))) := K2.setCell _ (.inl L.mb_S)
    have A1 := Lib.hid A1
    have X3 := Lib.hid X3
    have K3 := Lib.hid K3
    clear X2 M2 K2
    go_upto_region 4 with fail
    generalize wc.setCell ⟨L.mb, 17, none⟩ (.int .i64 ((i : Int) + 1)) = wd at *
    clear hf2 hc17b
    have A1 := A1.out
    have X3 := X3.out
    have LA := LA0.below A1.below
    obtain ⟨BD, hopd⟩ := LA.ops
    have hx3 := X3.cell
    replace z1 := z1.out
    replace z2 := z2.out
    replace t0 := t0.out
    replace t1 := t1.out
    have hx1 := A1.box.cell
    have hf1 := A1.box.frozen
    have A2 := A1.put (m' := setReg { m with at_ := (i : Int) + 1 } 3 (m.regs 0 / 2 ^ 63)) K 4 (.int .i64 (m.regs 0 / 2 ^ 63)) rfl A1.inp rfl rfl rfl rfl (A1.ok.setReg 3 hd)
    replace A2 := Lib.hid A2
    clear hd
    go_wp2_with fail
    go_region
    go_wp2_with fail
    refine bodyPost_end (v := .tuple #[]) (by simp [results, Tryz.results55, go_sem]) rfl ?_
    rw [← hR.out]
    exact ⟨rfl, _, _, A2.out.on (Below.drew (Below.refl _ _))⟩
set_option maxHeartbeats 4000000 in
set_option maxRecDepth 100000 in
theorem step_exit (w0 w : World) (L : Lay) (C : Cd) (m : Mach) (vi vo : Value) (K : LOk w0 L C) (h : MAt w0 w L C m vi vo) (i : Nat) (hat : m.at_ = i) (hi : i < C.lines.length) (l : Ln) (hl : C.lines.getD i ⟨[], []⟩ = l) (n1 : l.ops.length ≠ 1) (n2 : l.ops.length ≠ 2) (hw : l.word = [115, 121, 115, 101, 120, 105, 116]) :
    Calls Tryz.prog 55 #[.pointer (some ⟨L.mb, 0, none⟩)] w fun e w' => StpRet w0 L C e w' (X.none' C { m with at_ := (i : Int) + 1 } l.word) := by
  obtain ⟨R, hR⟩ : ∃ R, X.none' C { m with at_ := (i : Int) + 1 } l.word = R := ⟨_, rfl⟩
  rw [hR]
  have z1 := Lib.hid (show ((l.ops.length : Int) == 1) = false from beq_f (by omega))
  have z2 := Lib.hid (show ((l.ops.length : Int) == 2) = false from beq_f (by omega))
  clear n1 n2
  unfold X.none' at hR; rw [if_neg (by rw [hw]; decide), if_neg (by rw [hw]; decide), if_neg (by rw [hw]; decide), if_neg (by rw [hw]; decide), if_pos hw] at hR
  have t0 := Lib.hid (show (l.word == [114, 101, 116]) = false from neq_beq (by rw [hw]; decide))
  have t1 := Lib.hid (show (l.word == [99, 113, 116, 111]) = false from neq_beq (by rw [hw]; decide))
  have t2 := Lib.hid (show (l.word == [115, 121, 115, 105, 110]) = false from neq_beq (by rw [hw]; decide))
  have t3 := Lib.hid (show (l.word == [115, 121, 115, 111, 117, 116]) = false from neq_beq (by rw [hw]; decide))
  have t4 := Lib.hid (show (l.word == [115, 121, 115, 101, 120, 105, 116]) = true from beq_iff_eq.2 hw)
  replace hR := Lib.hid hR
  clear hw
  obtain ⟨g, cap, v, LA0⟩ := line_at K hi
  rw [hl] at LA0
  obtain ⟨BL, hops⟩ := LA0.ops
  obtain ⟨adv, capv, rfl, -⟩ := ownsRow_at hops
  have LA := LA0.below h.below
  have hx := h.box.cell
  have hf := h.box.frozen
  have hmb := h.box.lt
  have hrows := LA.rows
  have hword := LA.word
  have hv := LA.vcell
  have hi' : (i : Int) < (C.lines.length : Int) := by omega
  have hln := K.lines
  have hwr : IntKind.i64.wrap ((i : Int) + 1) = (i : Int) + 1 := by rw [IntKind.wrap_i64]; omega
  have hh := Lib.hid h
  have hc0 : w.cell? ⟨L.mb, 0, none⟩ = some (.pointer (some ⟨L.p, 0, none⟩)) := by rw [hx]; rfl
  have hc17 : w.cell? ⟨L.mb, 17, none⟩ = some (.int .i64 (i : Int)) := by rw [hx, ← hat]; rfl
  clear hx
  go_enter Tryz.func55, Tryz.ntmps55
  go_wp2_with fail
  go_quiet (fail)
  go_wp2_with fail
  go_cut [2] (fun s2 wx => s2 = .pointer (some ⟨w.heap.size, 0, none⟩) ∧ Bx wx w.heap.size #[.string (St l.word), .slice adv l.ops.length capv] 75 ∧ MAt w0 wx L C m vi vo ∧ Kp L.S w wx)
  case first =>
    have hnb : ∀ (k j : Nat), ((w.drewN k).alloc (.cells #[.string ⟨#[]⟩, .slice none 0 0] 75)).cell? ⟨w.heap.size, j, none⟩ = (#[.string ⟨#[]⟩, .slice none 0 0] : Array Value)[j]? := fun k j => (Bx.new (w := w.drewN k) (c := #[.string ⟨#[]⟩, .slice none 0 0]) (T := 75)).cell j
    have hnf : ∀ (k j : Nat), ((w.drewN k).alloc (.cells #[.string ⟨#[]⟩, .slice none 0 0] 75)).frozen? ⟨w.heap.size, j, none⟩ = false := fun k j => (Bx.new (w := w.drewN k) (c := #[.string ⟨#[]⟩, .slice none 0 0]) (T := 75)).frozen j
    go_region_held3 (fun w' => w'.cell? ⟨L.mb, 0, none⟩ = some (.pointer (some ⟨L.p, 0, none⟩)) ∧ w'.cell? ⟨L.mb, 17, none⟩ = some (.int .i64 (i : Int)) ∧ w'.cell? ⟨L.p, 1, none⟩ = some (.slice (some ⟨g, 0, none⟩) C.lines.length cap) ∧ w'.cell? ⟨g, i * 2, none⟩ = some (.string (St l.word)) ∧ w'.cell? ⟨g, i * 2 + 1, none⟩ = some (.slice adv l.ops.length capv)) ((refine fetch_held (hh.out.on ?_) (LA.below ?_) hat; all_goals ((repeat' (first | with_reducible assumption | with_reducible exact Below.refl _ _ | (with_reducible refine below_drewN ?_ _) | (with_reducible refine Below.drew ?_) | (with_reducible refine balloc ?_ _) | (with_reducible refine Below.setCell ?_ (by first | exact Nat.le_refl _ | (simp; done) | omega | (simp; omega)) _) | (with_reducible refine bstep ?_ (by with_reducible assumption))))))) (fail)
    all_goals
      go_wp2_with fail
      go_meet
      refine ⟨rfl, ?_, ?_, ?_⟩
      · exact Bx.set (i := 1) (v := .slice adv l.ops.length capv) (Bx.set (i := 0) (v := .string (St l.word)) (Bx.new (w := w.drewN (nq + 1)) (c := #[.string ⟨#[]⟩, .slice none 0 0]) (T := 75)))
      · exact hh.out.on (by (repeat' (first | with_reducible assumption | with_reducible exact Below.refl _ _ | (with_reducible refine below_drewN ?_ _) | (with_reducible refine Below.drew ?_) | (with_reducible refine balloc ?_ _) | (with_reducible refine Below.setCell ?_ (by first | exact Nat.le_refl _ | (simp; done) | omega | (simp; omega)) _) | (with_reducible refine bstep ?_ (by with_reducible assumption)))))
      · exact Kp.of_below (by (repeat' (first | with_reducible assumption | with_reducible exact Below.refl _ _ | (with_reducible refine below_drewN ?_ _) | (with_reducible refine Below.drew ?_) | (with_reducible refine balloc ?_ _) | (with_reducible refine Below.setCell ?_ (by first | exact Nat.le_refl _ | (simp; done) | omega | (simp; omega)) _) | (with_reducible refine bstep ?_ (by with_reducible assumption)))))
  case rest =>
    obtain ⟨rfl, X2, M2, K2⟩ := hcut
    clear hc0 hc17 hrows hword hv hf hh LA
    have hf2 := M2.box.frozen
    have hne2 : w.heap.size ≠ L.mb := by omega
    have hc17b : wc.cell? ⟨L.mb, 17, none⟩ = some (.int .i64 (i : Int)) := by rw [M2.box.cell, ← hat]; rfl
    have A1 := M2.put (m' := { m with at_ := (i : Int) + 1 }) K 17 (.int .i64 ((i : Int) + 1)) rfl M2.inp rfl rfl rfl rfl ⟨M2.ok.regs, M2.ok.x, M2.ok.y, by simp only; omega, by simp only; omega, M2.ok.kind, M2.ok.code, M2.ok.least⟩
    have X3 : Bx (wc.setCell ⟨L.mb, 17, none⟩ (.int .i64 ((i : Int) + 1))) w.heap.size #[.string (St l.word), .slice adv l.ops.length capv] 75 := X2.other hne2
    have K3 : Kp L.S w (wc.setCell ⟨L.mb, 17, none⟩ (.int .i64 ((i : Int) + 1))) := K2.setCell _ (.inl L.mb_S)
    have A1 := Lib.hid A1
    have X3 := Lib.hid X3
    have K3 := Lib.hid K3
    clear X2 M2 K2
    go_upto_region 4 with fail
    generalize wc.setCell ⟨L.mb, 17, none⟩ (.int .i64 ((i : Int) + 1)) = wd at *
    clear hf2 hc17b
    have A1 := A1.out
    have X3 := X3.out
    have LA := LA0.below A1.below
    obtain ⟨BD, hopd⟩ := LA.ops
    have hx3 := X3.cell
    replace z1 := z1.out
    replace z2 := z2.out
    replace t0 := t0.out
    replace t1 := t1.out
    replace t2 := t2.out
    replace t3 := t3.out
    replace t4 := t4.out
    have hx1 := A1.box.cell
    have HE := fun w h => Lib.hid (end_any w0 w L C { m with at_ := (i : Int) + 1 } vi vo K h 1 (m.regs 5) (by omega))
    go_wp2_with fail
    refine ((HE _ A1).out).mono ?_
    rintro e w2 ⟨rfl, hM2, hK2⟩
    go_wp2_with fail
    refine bodyPost_end (v := .tuple #[]) (by simp [results, Tryz.results55, go_sem]) rfl ?_
    rw [← hR.out]
    exact ⟨rfl, _, _, hM2⟩
set_option maxHeartbeats 4000000 in
set_option maxRecDepth 100000 in
theorem step_over (w0 w : World) (L : Lay) (C : Cd) (m : Mach) (vi vo : Value) (K : LOk w0 L C) (h : MAt w0 w L C m vi vo) (i : Nat) (hat : m.at_ = i) (hi : i < C.lines.length) (l : Ln) (hl : C.lines.getD i ⟨[], []⟩ = l) (n1 : l.ops.length ≠ 1) (n2 : l.ops.length ≠ 2) (hw : l.word = [115, 121, 115, 111, 118, 101, 114]) :
    Calls Tryz.prog 55 #[.pointer (some ⟨L.mb, 0, none⟩)] w fun e w' => StpRet w0 L C e w' (X.none' C { m with at_ := (i : Int) + 1 } l.word) := by
  obtain ⟨R, hR⟩ : ∃ R, X.none' C { m with at_ := (i : Int) + 1 } l.word = R := ⟨_, rfl⟩
  rw [hR]
  have z1 := Lib.hid (show ((l.ops.length : Int) == 1) = false from beq_f (by omega))
  have z2 := Lib.hid (show ((l.ops.length : Int) == 2) = false from beq_f (by omega))
  clear n1 n2
  unfold X.none' at hR; rw [if_neg (by rw [hw]; decide), if_neg (by rw [hw]; decide), if_neg (by rw [hw]; decide), if_neg (by rw [hw]; decide), if_neg (by rw [hw]; decide), if_pos hw] at hR
  have t0 := Lib.hid (show (l.word == [114, 101, 116]) = false from neq_beq (by rw [hw]; decide))
  have t1 := Lib.hid (show (l.word == [99, 113, 116, 111]) = false from neq_beq (by rw [hw]; decide))
  have t2 := Lib.hid (show (l.word == [115, 121, 115, 105, 110]) = false from neq_beq (by rw [hw]; decide))
  have t3 := Lib.hid (show (l.word == [115, 121, 115, 111, 117, 116]) = false from neq_beq (by rw [hw]; decide))
  have t4 := Lib.hid (show (l.word == [115, 121, 115, 101, 120, 105, 116]) = false from neq_beq (by rw [hw]; decide))
  have t5 := Lib.hid (show (l.word == [115, 121, 115, 111, 118, 101, 114]) = true from beq_iff_eq.2 hw)
  replace hR := Lib.hid hR
  clear hw
  obtain ⟨g, cap, v, LA0⟩ := line_at K hi
  rw [hl] at LA0
  obtain ⟨BL, hops⟩ := LA0.ops
  obtain ⟨adv, capv, rfl, -⟩ := ownsRow_at hops
  have LA := LA0.below h.below
  have hx := h.box.cell
  have hf := h.box.frozen
  have hmb := h.box.lt
  have hrows := LA.rows
  have hword := LA.word
  have hv := LA.vcell
  have hi' : (i : Int) < (C.lines.length : Int) := by omega
  have hln := K.lines
  have hwr : IntKind.i64.wrap ((i : Int) + 1) = (i : Int) + 1 := by rw [IntKind.wrap_i64]; omega
  have hh := Lib.hid h
  have hc0 : w.cell? ⟨L.mb, 0, none⟩ = some (.pointer (some ⟨L.p, 0, none⟩)) := by rw [hx]; rfl
  have hc17 : w.cell? ⟨L.mb, 17, none⟩ = some (.int .i64 (i : Int)) := by rw [hx, ← hat]; rfl
  clear hx
  go_enter Tryz.func55, Tryz.ntmps55
  go_wp2_with fail
  go_quiet (fail)
  go_wp2_with fail
  go_cut [2] (fun s2 wx => s2 = .pointer (some ⟨w.heap.size, 0, none⟩) ∧ Bx wx w.heap.size #[.string (St l.word), .slice adv l.ops.length capv] 75 ∧ MAt w0 wx L C m vi vo ∧ Kp L.S w wx)
  case first =>
    have hnb : ∀ (k j : Nat), ((w.drewN k).alloc (.cells #[.string ⟨#[]⟩, .slice none 0 0] 75)).cell? ⟨w.heap.size, j, none⟩ = (#[.string ⟨#[]⟩, .slice none 0 0] : Array Value)[j]? := fun k j => (Bx.new (w := w.drewN k) (c := #[.string ⟨#[]⟩, .slice none 0 0]) (T := 75)).cell j
    have hnf : ∀ (k j : Nat), ((w.drewN k).alloc (.cells #[.string ⟨#[]⟩, .slice none 0 0] 75)).frozen? ⟨w.heap.size, j, none⟩ = false := fun k j => (Bx.new (w := w.drewN k) (c := #[.string ⟨#[]⟩, .slice none 0 0]) (T := 75)).frozen j
    go_region_held3 (fun w' => w'.cell? ⟨L.mb, 0, none⟩ = some (.pointer (some ⟨L.p, 0, none⟩)) ∧ w'.cell? ⟨L.mb, 17, none⟩ = some (.int .i64 (i : Int)) ∧ w'.cell? ⟨L.p, 1, none⟩ = some (.slice (some ⟨g, 0, none⟩) C.lines.length cap) ∧ w'.cell? ⟨g, i * 2, none⟩ = some (.string (St l.word)) ∧ w'.cell? ⟨g, i * 2 + 1, none⟩ = some (.slice adv l.ops.length capv)) ((refine fetch_held (hh.out.on ?_) (LA.below ?_) hat; all_goals ((repeat' (first | with_reducible assumption | with_reducible exact Below.refl _ _ | (with_reducible refine below_drewN ?_ _) | (with_reducible refine Below.drew ?_) | (with_reducible refine balloc ?_ _) | (with_reducible refine Below.setCell ?_ (by first | exact Nat.le_refl _ | (simp; done) | omega | (simp; omega)) _) | (with_reducible refine bstep ?_ (by with_reducible assumption))))))) (fail)
    all_goals
      go_wp2_with fail
      go_meet
      refine ⟨rfl, ?_, ?_, ?_⟩
      · exact Bx.set (i := 1) (v := .slice adv l.ops.length capv) (Bx.set (i := 0) (v := .string (St l.word)) (Bx.new (w := w.drewN (nq + 1)) (c := #[.string ⟨#[]⟩, .slice none 0 0]) (T := 75)))
      · exact hh.out.on (by (repeat' (first | with_reducible assumption | with_reducible exact Below.refl _ _ | (with_reducible refine below_drewN ?_ _) | (with_reducible refine Below.drew ?_) | (with_reducible refine balloc ?_ _) | (with_reducible refine Below.setCell ?_ (by first | exact Nat.le_refl _ | (simp; done) | omega | (simp; omega)) _) | (with_reducible refine bstep ?_ (by with_reducible assumption)))))
      · exact Kp.of_below (by (repeat' (first | with_reducible assumption | with_reducible exact Below.refl _ _ | (with_reducible refine below_drewN ?_ _) | (with_reducible refine Below.drew ?_) | (with_reducible refine balloc ?_ _) | (with_reducible refine Below.setCell ?_ (by first | exact Nat.le_refl _ | (simp; done) | omega | (simp; omega)) _) | (with_reducible refine bstep ?_ (by with_reducible assumption)))))
  case rest =>
    obtain ⟨rfl, X2, M2, K2⟩ := hcut
    clear hc0 hc17 hrows hword hv hf hh LA
    have hf2 := M2.box.frozen
    have hne2 : w.heap.size ≠ L.mb := by omega
    have hc17b : wc.cell? ⟨L.mb, 17, none⟩ = some (.int .i64 (i : Int)) := by rw [M2.box.cell, ← hat]; rfl
    have A1 := M2.put (m' := { m with at_ := (i : Int) + 1 }) K 17 (.int .i64 ((i : Int) + 1)) rfl M2.inp rfl rfl rfl rfl ⟨M2.ok.regs, M2.ok.x, M2.ok.y, by simp only; omega, by simp only; omega, M2.ok.kind, M2.ok.code, M2.ok.least⟩
    have X3 : Bx (wc.setCell ⟨L.mb, 17, none⟩ (.int .i64 ((i : Int) + 1))) w.heap.size #[.string (St l.word), .slice adv l.ops.length capv] 75 := X2.other hne2
    have K3 : Kp L.S w (wc.setCell ⟨L.mb, 17, none⟩ (.int .i64 ((i : Int) + 1))) := K2.setCell _ (.inl L.mb_S)
    have A1 := Lib.hid A1
    have X3 := Lib.hid X3
    have K3 := Lib.hid K3
    clear X2 M2 K2
    go_upto_region 4 with fail
    generalize wc.setCell ⟨L.mb, 17, none⟩ (.int .i64 ((i : Int) + 1)) = wd at *
    clear hf2 hc17b
    have A1 := A1.out
    have X3 := X3.out
    have LA := LA0.below A1.below
    obtain ⟨BD, hopd⟩ := LA.ops
    have hx3 := X3.cell
    replace z1 := z1.out
    replace z2 := z2.out
    replace t0 := t0.out
    replace t1 := t1.out
    replace t2 := t2.out
    replace t3 := t3.out
    replace t4 := t4.out
    replace t5 := t5.out
    have HE := fun w h => Lib.hid (end_any w0 w L C { m with at_ := (i : Int) + 1 } vi vo K h 4 0 (by omega))
    go_wp2_with fail
    refine ((HE _ A1).out).mono ?_
    rintro e w2 ⟨rfl, hM2, hK2⟩
    go_wp2_with fail
    refine bodyPost_end (v := .tuple #[]) (by simp [results, Tryz.results55, go_sem]) rfl ?_
    rw [← hR.out]
    exact ⟨rfl, _, _, hM2⟩
set_option maxHeartbeats 4000000 in
set_option maxRecDepth 100000 in
theorem step_other (w0 w : World) (L : Lay) (C : Cd) (m : Mach) (vi vo : Value) (K : LOk w0 L C) (h : MAt w0 w L C m vi vo) (i : Nat) (hat : m.at_ = i) (hi : i < C.lines.length) (l : Ln) (hl : C.lines.getD i ⟨[], []⟩ = l) (n1 : l.ops.length ≠ 1) (n2 : l.ops.length ≠ 2) (nret : l.word ≠ [114, 101, 116]) (ncqto : l.word ≠ [99, 113, 116, 111]) (nsysin : l.word ≠ [115, 121, 115, 105, 110]) (nsysout : l.word ≠ [115, 121, 115, 111, 117, 116]) (nsysexit : l.word ≠ [115, 121, 115, 101, 120, 105, 116]) (nsysover : l.word ≠ [115, 121, 115, 111, 118, 101, 114]) :
    Calls Tryz.prog 55 #[.pointer (some ⟨L.mb, 0, none⟩)] w fun e w' => StpRet w0 L C e w' (X.none' C { m with at_ := (i : Int) + 1 } l.word) := by
  obtain ⟨R, hR⟩ : ∃ R, X.none' C { m with at_ := (i : Int) + 1 } l.word = R := ⟨_, rfl⟩
  rw [hR]
  have z1 := Lib.hid (show ((l.ops.length : Int) == 1) = false from beq_f (by omega))
  have z2 := Lib.hid (show ((l.ops.length : Int) == 2) = false from beq_f (by omega))
  clear n1 n2
  unfold X.none' at hR; rw [if_neg nret, if_neg ncqto, if_neg nsysin, if_neg nsysout, if_neg nsysexit, if_neg nsysover] at hR
  have t0 := Lib.hid (show (l.word == [114, 101, 116]) = false from neq_beq nret)
  have t1 := Lib.hid (show (l.word == [99, 113, 116, 111]) = false from neq_beq ncqto)
  have t2 := Lib.hid (show (l.word == [115, 121, 115, 105, 110]) = false from neq_beq nsysin)
  have t3 := Lib.hid (show (l.word == [115, 121, 115, 111, 117, 116]) = false from neq_beq nsysout)
  have t4 := Lib.hid (show (l.word == [115, 121, 115, 101, 120, 105, 116]) = false from neq_beq nsysexit)
  have t5 := Lib.hid (show (l.word == [115, 121, 115, 111, 118, 101, 114]) = false from neq_beq nsysover)
  replace hR := Lib.hid hR
  clear nret ncqto nsysin nsysout nsysexit nsysover
  obtain ⟨g, cap, v, LA0⟩ := line_at K hi
  rw [hl] at LA0
  obtain ⟨BL, hops⟩ := LA0.ops
  obtain ⟨adv, capv, rfl, -⟩ := ownsRow_at hops
  have LA := LA0.below h.below
  have hx := h.box.cell
  have hf := h.box.frozen
  have hmb := h.box.lt
  have hrows := LA.rows
  have hword := LA.word
  have hv := LA.vcell
  have hi' : (i : Int) < (C.lines.length : Int) := by omega
  have hln := K.lines
  have hwr : IntKind.i64.wrap ((i : Int) + 1) = (i : Int) + 1 := by rw [IntKind.wrap_i64]; omega
  have hh := Lib.hid h
  have hc0 : w.cell? ⟨L.mb, 0, none⟩ = some (.pointer (some ⟨L.p, 0, none⟩)) := by rw [hx]; rfl
  have hc17 : w.cell? ⟨L.mb, 17, none⟩ = some (.int .i64 (i : Int)) := by rw [hx, ← hat]; rfl
  clear hx
  go_enter Tryz.func55, Tryz.ntmps55
  go_wp2_with fail
  go_quiet (fail)
  go_wp2_with fail
  go_cut [2] (fun s2 wx => s2 = .pointer (some ⟨w.heap.size, 0, none⟩) ∧ Bx wx w.heap.size #[.string (St l.word), .slice adv l.ops.length capv] 75 ∧ MAt w0 wx L C m vi vo ∧ Kp L.S w wx)
  case first =>
    have hnb : ∀ (k j : Nat), ((w.drewN k).alloc (.cells #[.string ⟨#[]⟩, .slice none 0 0] 75)).cell? ⟨w.heap.size, j, none⟩ = (#[.string ⟨#[]⟩, .slice none 0 0] : Array Value)[j]? := fun k j => (Bx.new (w := w.drewN k) (c := #[.string ⟨#[]⟩, .slice none 0 0]) (T := 75)).cell j
    have hnf : ∀ (k j : Nat), ((w.drewN k).alloc (.cells #[.string ⟨#[]⟩, .slice none 0 0] 75)).frozen? ⟨w.heap.size, j, none⟩ = false := fun k j => (Bx.new (w := w.drewN k) (c := #[.string ⟨#[]⟩, .slice none 0 0]) (T := 75)).frozen j
    go_region_held3 (fun w' => w'.cell? ⟨L.mb, 0, none⟩ = some (.pointer (some ⟨L.p, 0, none⟩)) ∧ w'.cell? ⟨L.mb, 17, none⟩ = some (.int .i64 (i : Int)) ∧ w'.cell? ⟨L.p, 1, none⟩ = some (.slice (some ⟨g, 0, none⟩) C.lines.length cap) ∧ w'.cell? ⟨g, i * 2, none⟩ = some (.string (St l.word)) ∧ w'.cell? ⟨g, i * 2 + 1, none⟩ = some (.slice adv l.ops.length capv)) ((refine fetch_held (hh.out.on ?_) (LA.below ?_) hat; all_goals ((repeat' (first | with_reducible assumption | with_reducible exact Below.refl _ _ | (with_reducible refine below_drewN ?_ _) | (with_reducible refine Below.drew ?_) | (with_reducible refine balloc ?_ _) | (with_reducible refine Below.setCell ?_ (by first | exact Nat.le_refl _ | (simp; done) | omega | (simp; omega)) _) | (with_reducible refine bstep ?_ (by with_reducible assumption))))))) (fail)
    all_goals
      go_wp2_with fail
      go_meet
      refine ⟨rfl, ?_, ?_, ?_⟩
      · exact Bx.set (i := 1) (v := .slice adv l.ops.length capv) (Bx.set (i := 0) (v := .string (St l.word)) (Bx.new (w := w.drewN (nq + 1)) (c := #[.string ⟨#[]⟩, .slice none 0 0]) (T := 75)))
      · exact hh.out.on (by (repeat' (first | with_reducible assumption | with_reducible exact Below.refl _ _ | (with_reducible refine below_drewN ?_ _) | (with_reducible refine Below.drew ?_) | (with_reducible refine balloc ?_ _) | (with_reducible refine Below.setCell ?_ (by first | exact Nat.le_refl _ | (simp; done) | omega | (simp; omega)) _) | (with_reducible refine bstep ?_ (by with_reducible assumption)))))
      · exact Kp.of_below (by (repeat' (first | with_reducible assumption | with_reducible exact Below.refl _ _ | (with_reducible refine below_drewN ?_ _) | (with_reducible refine Below.drew ?_) | (with_reducible refine balloc ?_ _) | (with_reducible refine Below.setCell ?_ (by first | exact Nat.le_refl _ | (simp; done) | omega | (simp; omega)) _) | (with_reducible refine bstep ?_ (by with_reducible assumption)))))
  case rest =>
    obtain ⟨rfl, X2, M2, K2⟩ := hcut
    clear hc0 hc17 hrows hword hv hf hh LA
    have hf2 := M2.box.frozen
    have hne2 : w.heap.size ≠ L.mb := by omega
    have hc17b : wc.cell? ⟨L.mb, 17, none⟩ = some (.int .i64 (i : Int)) := by rw [M2.box.cell, ← hat]; rfl
    have A1 := M2.put (m' := { m with at_ := (i : Int) + 1 }) K 17 (.int .i64 ((i : Int) + 1)) rfl M2.inp rfl rfl rfl rfl ⟨M2.ok.regs, M2.ok.x, M2.ok.y, by simp only; omega, by simp only; omega, M2.ok.kind, M2.ok.code, M2.ok.least⟩
    have X3 : Bx (wc.setCell ⟨L.mb, 17, none⟩ (.int .i64 ((i : Int) + 1))) w.heap.size #[.string (St l.word), .slice adv l.ops.length capv] 75 := X2.other hne2
    have K3 : Kp L.S w (wc.setCell ⟨L.mb, 17, none⟩ (.int .i64 ((i : Int) + 1))) := K2.setCell _ (.inl L.mb_S)
    have A1 := Lib.hid A1
    have X3 := Lib.hid X3
    have K3 := Lib.hid K3
    clear X2 M2 K2
    go_upto_region 4 with fail
    generalize wc.setCell ⟨L.mb, 17, none⟩ (.int .i64 ((i : Int) + 1)) = wd at *
    clear hf2 hc17b
    have A1 := A1.out
    have X3 := X3.out
    have LA := LA0.below A1.below
    obtain ⟨BD, hopd⟩ := LA.ops
    have hx3 := X3.cell
    replace z1 := z1.out
    replace z2 := z2.out
    replace t0 := t0.out
    replace t1 := t1.out
    replace t2 := t2.out
    replace t3 := t3.out
    replace t4 := t4.out
    replace t5 := t5.out
    replace A1 := Lib.hid A1
    go_wp2_with fail
    refine bodyPost_end (v := .tuple #[]) (by simp [results, Tryz.results55, go_sem]) rfl ?_
    rw [← hR.out]
    exact ⟨rfl, _, _, A1.out⟩
end Go.Proofs.YtfkfdffhajokkaaGreatDoor
