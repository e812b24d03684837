/- How package x86's machine finds its next instruction; conditions: a machine that lies in memory, lines as they are read. -/
import Derived.Test.YtfkfdffhajokkaaGreatDoorA30
import Derived.StillTailTactics
import Derived.Test.YtfkfdffhajokkaaGreatDoorA11
import Derived.Deep.DeepCutAuto
import Derived.Deep.RegionHeld3
namespace Go.Proofs.YtfkfdffhajokkaaGreatDoor
open Go.RowKit X
set_option linter.unusedSimpArgs false
/-- A line of the code, where the machine runs. -/
structure LineAt (w : World) (L : Lay) (C : Cd) (i : Nat) (l : Ln) (g cap : Nat) (v : Value) : Prop where
  rows : w.cell? ⟨L.p, 1, none⟩ = some (.slice (some ⟨g, 0, none⟩) C.lines.length cap)
  word : w.cell? ⟨g, i * 2, none⟩ = some (.string (St l.word))
  vcell : w.cell? ⟨g, i * 2 + 1, none⟩ = some v
  ops : ∃ B, w.ownsRow B 118 7 v l.ops.length (opsFlat l.ops)
theorem LineAt.below {w w' : World} {L : Lay} {C : Cd} {i : Nat} {l : Ln} {g cap : Nat} {v : Value} (h : LineAt w L C i l g cap v) (hb : Below w.heap.size w w') : LineAt w' L C i l g cap v := by
  obtain ⟨h1, h2, h3, B, h4⟩ := h
  exact ⟨cell_below hb h1, cell_below hb h2, cell_below hb h3, B, ownsRow_below h4 hb⟩
theorem line_at {w0 : World} {L : Lay} {C : Cd} (K : LOk w0 L C) {i : Nat} (hi : i < C.lines.length) : ∃ g cap v, LineAt w0 L C i (C.lines.getD i ⟨[], []⟩) g cap v := by
  obtain ⟨B, hC⟩ := K.code
  obtain ⟨-, vl, xs, r1, r2, d, vs, X1, R1, LA, -⟩ := hC
  obtain ⟨g, cap, rfl, -, -, hg⟩ := ownsRow_cell R1 (by omega)
  obtain ⟨e1, v, e2, e3⟩ := LA.2 i hi
  refine ⟨g, cap, v, by rw [X1.cell]; rfl, ?_, ?_, B, e3⟩
  · rw [hg (i * 2) (by omega), Nat.mul_comm]; exact e1
  · rw [hg (i * 2 + 1) (by omega), Nat.mul_comm]; exact e2
theorem fetch_held {w0 wx : World} {L : Lay} {C : Cd} {m : Mach} {vi vo : Value} {i : Nat} {l : Ln} {g cap : Nat} {v : Value} (h : MAt w0 wx L C m vi vo) (LA : LineAt wx L C i l g cap v) (hat : m.at_ = i) :
    wx.cell? ⟨L.mb, 0, none⟩ = some (.pointer (some ⟨L.p, 0, none⟩)) ∧ wx.cell? ⟨L.mb, 17, none⟩ = some (.int .i64 (i : Int)) ∧ wx.cell? ⟨L.p, 1, none⟩ = some (.slice (some ⟨g, 0, none⟩) C.lines.length cap) ∧ wx.cell? ⟨g, i * 2, none⟩ = some (.string (St l.word)) ∧ wx.cell? ⟨g, i * 2 + 1, none⟩ = some v :=
  ⟨by rw [h.box.cell]; rfl, by rw [h.box.cell, ← hat]; rfl, LA.rows, LA.word, LA.vcell⟩
set_option maxHeartbeats 4000000 in
set_option maxRecDepth 100000 in
theorem step_twos (w0 w : World) (L : Lay) (C : Cd) (m : Mach) (vi vo : Value) (K : LOk w0 L C) (h : MAt w0 w L C m vi vo) (i : Nat) (hat : m.at_ = i) (hi : i < C.lines.length) (l : Ln) (hl : C.lines.getD i ⟨[], []⟩ = l) (a b : Opd) (ho : l.ops = [a, b]) (ok : TwoOk l.word a b) :
    Calls Tryz.prog 55 #[.pointer (some ⟨L.mb, 0, none⟩)] w fun e w' => DoRet w0 w L C vi vo e w' (X.two C { m with at_ := (i : Int) + 1 } l.word a b) := by
  obtain ⟨R, hR⟩ : ∃ R, X.two C { m with at_ := (i : Int) + 1 } l.word a b = R := ⟨_, rfl⟩
  rw [hR]
  replace ho := Lib.hid ho
  obtain ⟨g, cap, v, LA0⟩ := line_at K hi
  rw [hl] at LA0
  obtain ⟨BL, hops⟩ := LA0.ops
  obtain ⟨adv, capv, rfl, -⟩ := ownsRow_at hops
  have LA := LA0.below h.below
  have hx := h.box.cell
  have hf := h.box.frozen
  have hmb := h.box.lt
  have hrows := LA.rows
  have hword := LA.word
  have hv := LA.vcell
  have hi' : (i : Int) < (C.lines.length : Int) := by omega
  have hln := K.lines
  have hwr : IntKind.i64.wrap ((i : Int) + 1) = (i : Int) + 1 := by rw [IntKind.wrap_i64]; omega
  have hh := Lib.hid h
  have hc0 : w.cell? ⟨L.mb, 0, none⟩ = some (.pointer (some ⟨L.p, 0, none⟩)) := by rw [hx]; rfl
  have hc17 : w.cell? ⟨L.mb, 17, none⟩ = some (.int .i64 (i : Int)) := by rw [hx, ← hat]; rfl
  clear hx
  go_enter Tryz.func55, Tryz.ntmps55
  go_wp2_with fail
  go_quiet (fail)
  go_wp2_with fail
  go_cut [2] (fun s2 wx => s2 = .pointer (some ⟨w.heap.size, 0, none⟩) ∧ Bx wx w.heap.size #[.string (St l.word), .slice adv l.ops.length capv] 75 ∧ MAt w0 wx L C m vi vo ∧ Kp L.S w wx)
  case first =>
    have hnb : ∀ (k j : Nat), ((w.drewN k).alloc (.cells #[.string ⟨#[]⟩, .slice none 0 0] 75)).cell? ⟨w.heap.size, j, none⟩ = (#[.string ⟨#[]⟩, .slice none 0 0] : Array Value)[j]? := fun k j => (Bx.new (w := w.drewN k) (c := #[.string ⟨#[]⟩, .slice none 0 0]) (T := 75)).cell j
    have hnf : ∀ (k j : Nat), ((w.drewN k).alloc (.cells #[.string ⟨#[]⟩, .slice none 0 0] 75)).frozen? ⟨w.heap.size, j, none⟩ = false := fun k j => (Bx.new (w := w.drewN k) (c := #[.string ⟨#[]⟩, .slice none 0 0]) (T := 75)).frozen j
    go_region_held3 (fun w' => w'.cell? ⟨L.mb, 0, none⟩ = some (.pointer (some ⟨L.p, 0, none⟩)) ∧ w'.cell? ⟨L.mb, 17, none⟩ = some (.int .i64 (i : Int)) ∧ w'.cell? ⟨L.p, 1, none⟩ = some (.slice (some ⟨g, 0, none⟩) C.lines.length cap) ∧ w'.cell? ⟨g, i * 2, none⟩ = some (.string (St l.word)) ∧ w'.cell? ⟨g, i * 2 + 1, none⟩ = some (.slice adv l.ops.length capv)) ((refine fetch_held (hh.out.on ?_) (LA.below ?_) hat; all_goals ((repeat' (first | with_reducible assumption | with_reducible exact Below.refl _ _ | (with_reducible refine below_drewN ?_ _) | (with_reducible refine Below.drew ?_) | (with_reducible refine balloc ?_ _) | (with_reducible refine Below.setCell ?_ (by first | exact Nat.le_refl _ | (simp; done) | omega | (simp; omega)) _) | (with_reducible refine bstep ?_ (by with_reducible assumption))))))) (fail)
    all_goals
      go_wp2_with fail
      go_meet
      refine ⟨rfl, ?_, ?_, ?_⟩
      · exact Bx.set (i := 1) (v := .slice adv l.ops.length capv) (Bx.set (i := 0) (v := .string (St l.word)) (Bx.new (w := w.drewN (nq + 1)) (c := #[.string ⟨#[]⟩, .slice none 0 0]) (T := 75)))
      · exact hh.out.on (by (repeat' (first | with_reducible assumption | with_reducible exact Below.refl _ _ | (with_reducible refine below_drewN ?_ _) | (with_reducible refine Below.drew ?_) | (with_reducible refine balloc ?_ _) | (with_reducible refine Below.setCell ?_ (by first | exact Nat.le_refl _ | (simp; done) | omega | (simp; omega)) _) | (with_reducible refine bstep ?_ (by with_reducible assumption)))))
      · exact Kp.of_below (by (repeat' (first | with_reducible assumption | with_reducible exact Below.refl _ _ | (with_reducible refine below_drewN ?_ _) | (with_reducible refine Below.drew ?_) | (with_reducible refine balloc ?_ _) | (with_reducible refine Below.setCell ?_ (by first | exact Nat.le_refl _ | (simp; done) | omega | (simp; omega)) _) | (with_reducible refine bstep ?_ (by with_reducible assumption)))))
  case rest =>
    obtain ⟨rfl, X2, M2, K2⟩ := hcut
    clear hc0 hc17 hrows hword hv hf hh LA
    have hf2 := M2.box.frozen
    have hne2 : w.heap.size ≠ L.mb := by omega
    have hc17b : wc.cell? ⟨L.mb, 17, none⟩ = some (.int .i64 (i : Int)) := by rw [M2.box.cell, ← hat]; rfl
    have A1 := M2.put (m' := { m with at_ := (i : Int) + 1 }) K 17 (.int .i64 ((i : Int) + 1)) rfl M2.inp rfl rfl rfl rfl ⟨M2.ok.regs, M2.ok.x, M2.ok.y, by simp only; omega, by simp only; omega, M2.ok.kind, M2.ok.code, M2.ok.least⟩
    have X3 : Bx (wc.setCell ⟨L.mb, 17, none⟩ (.int .i64 ((i : Int) + 1))) w.heap.size #[.string (St l.word), .slice adv l.ops.length capv] 75 := X2.other hne2
    have K3 : Kp L.S w (wc.setCell ⟨L.mb, 17, none⟩ (.int .i64 ((i : Int) + 1))) := K2.setCell _ (.inl L.mb_S)
    have A1 := Lib.hid A1
    have X3 := Lib.hid X3
    have K3 := Lib.hid K3
    clear X2 M2 K2
    go_upto_region 4 with fail
    generalize wc.setCell ⟨L.mb, 17, none⟩ (.int .i64 ((i : Int) + 1)) = wd at *
    clear hf2 hc17b
    have A1 := A1.out
    have X3 := X3.out
    have LA := LA0.below A1.below
    obtain ⟨BD, hopd⟩ := LA.ops
    have hx3 := X3.cell
    replace ho := ho.out
    have H2 := fun w ad n cap h => Lib.hid (two_any w0 w L C { m with at_ := (i : Int) + 1 } vi vo K h l.word ad n cap a b ok)
    simp only [hR] at H2
    rw [ho] at hopd
    obtain ⟨g2, cap2, hs2, -, -, hg2⟩ := ownsRow_cell hopd (by simp)
    cases hs2
    rw [ho] at hx3
    have q0 : wd.cell? ⟨g2, 0, none⟩ = some (.int .i64 a.kind) := hg2 0 (by simp)
    have q1 : wd.cell? ⟨g2, 1, none⟩ = some (.int .i64 a.reg) := hg2 1 (by simp)
    have q2 : wd.cell? ⟨g2, 2, none⟩ = some (.int .i64 a.bytes) := hg2 2 (by simp)
    have q3 : wd.cell? ⟨g2, 3, none⟩ = some (.int .i64 a.n) := hg2 3 (by simp)
    have q4 : wd.cell? ⟨g2, 4, none⟩ = some (.int .i64 a.x) := hg2 4 (by simp)
    have q5 : wd.cell? ⟨g2, 5, none⟩ = some (.int .i64 a.scale) := hg2 5 (by simp)
    have q6 : wd.cell? ⟨g2, 6, none⟩ = some (.string (St a.name)) := hg2 6 (by simp)
    have q7 : wd.cell? ⟨g2, 7, none⟩ = some (.int .i64 b.kind) := hg2 7 (by simp)
    have q8 : wd.cell? ⟨g2, 8, none⟩ = some (.int .i64 b.reg) := hg2 8 (by simp)
    have q9 : wd.cell? ⟨g2, 9, none⟩ = some (.int .i64 b.bytes) := hg2 9 (by simp)
    have q10 : wd.cell? ⟨g2, 10, none⟩ = some (.int .i64 b.n) := hg2 10 (by simp)
    have q11 : wd.cell? ⟨g2, 11, none⟩ = some (.int .i64 b.x) := hg2 11 (by simp)
    have q12 : wd.cell? ⟨g2, 12, none⟩ = some (.int .i64 b.scale) := hg2 12 (by simp)
    have q13 : wd.cell? ⟨g2, 13, none⟩ = some (.string (St b.name)) := hg2 13 (by simp)
    have A1 := Lib.hid A1
    clear X3 LA hg2 hopd
    go_wp2_with fail
    refine region_tail 10 (by kernel_rfl) (by kernel_rfl) ?_
    simp only [List.take_succ_cons, List.take_zero, List.drop_succ_cons, List.drop_zero]
    repeat (refine wpStill_step (fun K hK => ?_); go_simp; refine hK _ ?_; clear hK K)
    refine wpStill_nil ?_
    go_wp2_with fail
    refine ((H2 _ _ _ _ (A1.out.on (Below.drew (Below.refl _ _)))).out).mono ?_
    rintro e w3 ⟨rfl, hM3, hK3⟩
    go_wp2_with fail
    refine bodyPost_ret (v := .tuple #[]) (by simp [results, Tryz.results55, go_sem]) rfl ?_
    exact ⟨rfl, hM3, (K3.out.drew).trans hK3⟩
set_option maxHeartbeats 4000000 in
set_option maxRecDepth 100000 in
theorem step_ones (w0 w : World) (L : Lay) (C : Cd) (m : Mach) (vi vo : Value) (K : LOk w0 L C) (h : MAt w0 w L C m vi vo) (i : Nat) (hat : m.at_ = i) (hi : i < C.lines.length) (l : Ln) (hl : C.lines.getD i ⟨[], []⟩ = l) (a : Opd) (ho : l.ops = [a]) (ok : OneOk l.word a) (hlen : l.word.length < 9223372036854775807) :
    Calls Tryz.prog 55 #[.pointer (some ⟨L.mb, 0, none⟩)] w fun e w' => DoRet w0 w L C vi vo e w' (X.one C { m with at_ := (i : Int) + 1 } l.word a) := by
  obtain ⟨R, hR⟩ : ∃ R, X.one C { m with at_ := (i : Int) + 1 } l.word a = R := ⟨_, rfl⟩
  rw [hR]
  replace ho := Lib.hid ho
  obtain ⟨g, cap, v, LA0⟩ := line_at K hi
  rw [hl] at LA0
  obtain ⟨BL, hops⟩ := LA0.ops
  obtain ⟨adv, capv, rfl, -⟩ := ownsRow_at hops
  have LA := LA0.below h.below
  have hx := h.box.cell
  have hf := h.box.frozen
  have hmb := h.box.lt
  have hrows := LA.rows
  have hword := LA.word
  have hv := LA.vcell
  have hi' : (i : Int) < (C.lines.length : Int) := by omega
  have hln := K.lines
  have hwr : IntKind.i64.wrap ((i : Int) + 1) = (i : Int) + 1 := by rw [IntKind.wrap_i64]; omega
  have hh := Lib.hid h
  have hc0 : w.cell? ⟨L.mb, 0, none⟩ = some (.pointer (some ⟨L.p, 0, none⟩)) := by rw [hx]; rfl
  have hc17 : w.cell? ⟨L.mb, 17, none⟩ = some (.int .i64 (i : Int)) := by rw [hx, ← hat]; rfl
  clear hx
  go_enter Tryz.func55, Tryz.ntmps55
  go_wp2_with fail
  go_quiet (fail)
  go_wp2_with fail
  go_cut [2] (fun s2 wx => s2 = .pointer (some ⟨w.heap.size, 0, none⟩) ∧ Bx wx w.heap.size #[.string (St l.word), .slice adv l.ops.length capv] 75 ∧ MAt w0 wx L C m vi vo ∧ Kp L.S w wx)
  case first =>
    have hnb : ∀ (k j : Nat), ((w.drewN k).alloc (.cells #[.string ⟨#[]⟩, .slice none 0 0] 75)).cell? ⟨w.heap.size, j, none⟩ = (#[.string ⟨#[]⟩, .slice none 0 0] : Array Value)[j]? := fun k j => (Bx.new (w := w.drewN k) (c := #[.string ⟨#[]⟩, .slice none 0 0]) (T := 75)).cell j
    have hnf : ∀ (k j : Nat), ((w.drewN k).alloc (.cells #[.string ⟨#[]⟩, .slice none 0 0] 75)).frozen? ⟨w.heap.size, j, none⟩ = false := fun k j => (Bx.new (w := w.drewN k) (c := #[.string ⟨#[]⟩, .slice none 0 0]) (T := 75)).frozen j
    go_region_held3 (fun w' => w'.cell? ⟨L.mb, 0, none⟩ = some (.pointer (some ⟨L.p, 0, none⟩)) ∧ w'.cell? ⟨L.mb, 17, none⟩ = some (.int .i64 (i : Int)) ∧ w'.cell? ⟨L.p, 1, none⟩ = some (.slice (some ⟨g, 0, none⟩) C.lines.length cap) ∧ w'.cell? ⟨g, i * 2, none⟩ = some (.string (St l.word)) ∧ w'.cell? ⟨g, i * 2 + 1, none⟩ = some (.slice adv l.ops.length capv)) ((refine fetch_held (hh.out.on ?_) (LA.below ?_) hat; all_goals ((repeat' (first | with_reducible assumption | with_reducible exact Below.refl _ _ | (with_reducible refine below_drewN ?_ _) | (with_reducible refine Below.drew ?_) | (with_reducible refine balloc ?_ _) | (with_reducible refine Below.setCell ?_ (by first | exact Nat.le_refl _ | (simp; done) | omega | (simp; omega)) _) | (with_reducible refine bstep ?_ (by with_reducible assumption))))))) (fail)
    all_goals
      go_wp2_with fail
      go_meet
      refine ⟨rfl, ?_, ?_, ?_⟩
      · exact Bx.set (i := 1) (v := .slice adv l.ops.length capv) (Bx.set (i := 0) (v := .string (St l.word)) (Bx.new (w := w.drewN (nq + 1)) (c := #[.string ⟨#[]⟩, .slice none 0 0]) (T := 75)))
      · exact hh.out.on (by (repeat' (first | with_reducible assumption | with_reducible exact Below.refl _ _ | (with_reducible refine below_drewN ?_ _) | (with_reducible refine Below.drew ?_) | (with_reducible refine balloc ?_ _) | (with_reducible refine Below.setCell ?_ (by first | exact Nat.le_refl _ | (simp; done) | omega | (simp; omega)) _) | (with_reducible refine bstep ?_ (by with_reducible assumption)))))
      · exact Kp.of_below (by (repeat' (first | with_reducible assumption | with_reducible exact Below.refl _ _ | (with_reducible refine below_drewN ?_ _) | (with_reducible refine Below.drew ?_) | (with_reducible refine balloc ?_ _) | (with_reducible refine Below.setCell ?_ (by first | exact Nat.le_refl _ | (simp; done) | omega | (simp; omega)) _) | (with_reducible refine bstep ?_ (by with_reducible assumption)))))
  case rest =>
    obtain ⟨rfl, X2, M2, K2⟩ := hcut
    clear hc0 hc17 hrows hword hv hf hh LA
    have hf2 := M2.box.frozen
    have hne2 : w.heap.size ≠ L.mb := by omega
    have hc17b : wc.cell? ⟨L.mb, 17, none⟩ = some (.int .i64 (i : Int)) := by rw [M2.box.cell, ← hat]; rfl
    have A1 := M2.put (m' := { m with at_ := (i : Int) + 1 }) K 17 (.int .i64 ((i : Int) + 1)) rfl M2.inp rfl rfl rfl rfl ⟨M2.ok.regs, M2.ok.x, M2.ok.y, by simp only; omega, by simp only; omega, M2.ok.kind, M2.ok.code, M2.ok.least⟩
    have X3 : Bx (wc.setCell ⟨L.mb, 17, none⟩ (.int .i64 ((i : Int) + 1))) w.heap.size #[.string (St l.word), .slice adv l.ops.length capv] 75 := X2.other hne2
    have K3 : Kp L.S w (wc.setCell ⟨L.mb, 17, none⟩ (.int .i64 ((i : Int) + 1))) := K2.setCell _ (.inl L.mb_S)
    have A1 := Lib.hid A1
    have X3 := Lib.hid X3
    have K3 := Lib.hid K3
    clear X2 M2 K2
    go_upto_region 4 with fail
    generalize wc.setCell ⟨L.mb, 17, none⟩ (.int .i64 ((i : Int) + 1)) = wd at *
    clear hf2 hc17b
    have A1 := A1.out
    have X3 := X3.out
    have LA := LA0.below A1.below
    obtain ⟨BD, hopd⟩ := LA.ops
    have hx3 := X3.cell
    replace ho := ho.out
    have H2 := fun w h => Lib.hid (one_any w0 w L C { m with at_ := (i : Int) + 1 } vi vo K h l.word a ok hlen)
    simp only [hR] at H2
    rw [ho] at hopd
    obtain ⟨g2, cap2, hs2, -, -, hg2⟩ := ownsRow_cell hopd (by simp)
    cases hs2
    rw [ho] at hx3
    have q0 : wd.cell? ⟨g2, 0, none⟩ = some (.int .i64 a.kind) := hg2 0 (by simp)
    have q1 : wd.cell? ⟨g2, 1, none⟩ = some (.int .i64 a.reg) := hg2 1 (by simp)
    have q2 : wd.cell? ⟨g2, 2, none⟩ = some (.int .i64 a.bytes) := hg2 2 (by simp)
    have q3 : wd.cell? ⟨g2, 3, none⟩ = some (.int .i64 a.n) := hg2 3 (by simp)
    have q4 : wd.cell? ⟨g2, 4, none⟩ = some (.int .i64 a.x) := hg2 4 (by simp)
    have q5 : wd.cell? ⟨g2, 5, none⟩ = some (.int .i64 a.scale) := hg2 5 (by simp)
    have q6 : wd.cell? ⟨g2, 6, none⟩ = some (.string (St a.name)) := hg2 6 (by simp)
    have A1 := Lib.hid A1
    clear X3 LA hg2 hopd
    go_wp2_with fail
    refine region_tail 7 (by kernel_rfl) (by kernel_rfl) ?_
    simp only [List.take_succ_cons, List.take_zero, List.drop_succ_cons, List.drop_zero]
    repeat (refine wpStill_step (fun K hK => ?_); go_simp; refine hK _ ?_; clear hK K)
    refine wpStill_nil ?_
    go_wp2_with fail
    refine ((H2 _ (A1.out.on (Below.drew (Below.refl _ _)))).out).mono ?_
    rintro e w3 ⟨rfl, hM3, hK3⟩
    go_wp2_with fail
    refine bodyPost_ret (v := .tuple #[]) (by simp [results, Tryz.results55, go_sem]) rfl ?_
    exact ⟨rfl, hM3, (K3.out.drew).trans hK3⟩
end Go.Proofs.YtfkfdffhajokkaaGreatDoor
