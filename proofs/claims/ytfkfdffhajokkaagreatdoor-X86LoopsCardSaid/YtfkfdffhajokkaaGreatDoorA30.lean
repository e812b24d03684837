/- How package x86's machine does instructions of one operand; conditions: a machine that lies in memory, operands as they are read. -/
import Derived.Test.YtfkfdffhajokkaaGreatDoorA26
import Derived.Test.YtfkfdffhajokkaaGreatDoorA27
import Derived.Test.YtfkfdffhajokkaaGreatDoorA28
import Derived.Test.YtfkfdffhajokkaaGreatDoorA29
namespace Go.Proofs.YtfkfdffhajokkaaGreatDoor
open Go.RowKit X
set_option linter.unusedSimpArgs false
theorem not_bits {x : Int} (h : In64 x) : Go.bits .xor .i64 (-1) x = -1 - x := by
  have e : Go.bits .xor .i64 (-1) x = IntKind.i64.wrap ((BitVec.ofInt 64 (-1) ^^^ BitVec.ofInt 64 x).toNat : Int) := rfl
  have e2 : BitVec.ofInt 64 (-1) ^^^ BitVec.ofInt 64 x = ~~~ (BitVec.ofInt 64 x) := by
    rw [show BitVec.ofInt 64 (-1) = BitVec.allOnes 64 by decide, BitVec.allOnes_xor]
  rw [e, e2, IntKind.wrap_i64, BitVec.toNat_not, BitVec.toNat_ofInt]
  unfold In64 at h
  omega
/-- Where an instruction of one operand stands. -/
structure OAt (w0 w wx : World) (L : Lay) (C : Cd) (m : Mach) (vi vo : Value) (o : Opd) : Prop where
  at_ : MAt w0 wx L C m vi vo
  kp : Kp L.S w wx
  o : Bx wx w.heap.size (oc o) 118
theorem OAt.on {w0 w wx wy : World} {L : Lay} {C : Cd} {m : Mach} {vi vo : Value} {o : Opd} (h : OAt w0 w wx L C m vi vo o) (hb : Below wx.heap.size wx wy) : OAt w0 w wy L C m vi vo o :=
  ⟨h.at_.on hb, h.kp.below hb, h.o.below hb⟩
theorem OAt.turn {w0 w wx wy : World} {L : Lay} {C : Cd} {m m' : Mach} {vi vo vi' vo' : Value} {o : Opd} (h : OAt w0 w wx L C m vi vo o) (hS : ∀ k, k ∈ L.S → k < w.heap.size) (hM : MAt w0 wy L C m' vi' vo') (hK : Kp L.S wx wy) : OAt w0 w wy L C m' vi' vo' o :=
  ⟨hM, h.kp.trans hK, h.o.kp hK (fun e => by have := hS _ e; omega)⟩
set_option maxHeartbeats 4000000 in
set_option maxRecDepth 100000 in
theorem one_negq (w0 w : World) (L : Lay) (C : Cd) (m : Mach) (vi vo : Value) (K : LOk w0 L C) (h : MAt w0 w L C m vi vo) (word : Str) (o : Opd) (ok : OneOk word o) (hw : word = [110, 101, 103, 113]) :
    Calls Tryz.prog 86 #[.pointer (some ⟨L.mb, 0, none⟩), .string (St word), Ov o] w fun e w' => DoRet w0 w L C vi vo e w' (X.one C m word o) := by
  obtain ⟨R, hR⟩ : ∃ R, X.one C m word o = R := ⟨_, rfl⟩
  rw [hR]
  unfold X.one at hR
  have B1 := balloc (Below.refl w.heap.size w) (.cells (oc o) 118)
  have hT : OAt w0 w _ L C m vi vo o := ⟨h.on B1, Kp.of_below B1, Bx.new⟩
  have hS : ∀ k, k ∈ L.S → k < w.heap.size := fun k hk => (K.S_lt h k hk).2
  have hx1 := hT.o.cell
  have hk3 := ok.kind
  obtain ⟨hr0, hr1⟩ := ok.oo.reg (.inl hk3)
  have hrl : o.reg.toNat < 16 := by omega
  have hreg := hT.at_.reg hrl
  have hml := h.box.lt
  clear B1
  have tnegq : (word == [110, 101, 103, 113]) = true := beq_iff_eq.2 hw
  obtain ⟨v, hv⟩ : ∃ v, wrap64 (-(m.regs o.reg.toNat)) = v := ⟨_, rfl⟩
  replace hR : setReg m o.reg.toNat v = R := by rw [← hR]; rw [if_pos hw]; rw [hv]
  have hv64 : In64 v := by rw [← hv]; exact In64.wrap _
  have hv2 : IntKind.i64.wrap (-m.regs o.reg.toNat) = v := by rw [← hv, IntKind.wrap_i64]; unfold wrap64; omega
  have hfz := hT.at_.box.frozen
  have A1 := h.put (m' := setReg m o.reg.toNat v) K (1 + o.reg.toNat) (.int .i64 v) (mcells_set _ _ _ _ _ _ hrl v) h.inp rfl rfl rfl rfl (h.ok.setReg _ hv64)
  have A1 := Lib.hid A1
  replace hR := Lib.hid hR
  have hT := Lib.hid hT
  go_enter Tryz.func86, Tryz.ntmps86
  go_wp2_with fail
  go_region
  go_wp2_with fail
  refine bodyPost_end (v := .tuple #[]) (by simp [results, Tryz.results86, go_sem]) rfl ?_
  rw [← hR.out]
  exact ⟨rfl, A1.out.on (Below.drew (balloc (Below.refl _ _) _)), ((Kp.putM L.mb_S _ _).alloc _).drew⟩
set_option maxHeartbeats 4000000 in
set_option maxRecDepth 100000 in
theorem one_notq (w0 w : World) (L : Lay) (C : Cd) (m : Mach) (vi vo : Value) (K : LOk w0 L C) (h : MAt w0 w L C m vi vo) (word : Str) (o : Opd) (ok : OneOk word o) (hw : word = [110, 111, 116, 113]) :
    Calls Tryz.prog 86 #[.pointer (some ⟨L.mb, 0, none⟩), .string (St word), Ov o] w fun e w' => DoRet w0 w L C vi vo e w' (X.one C m word o) := by
  obtain ⟨R, hR⟩ : ∃ R, X.one C m word o = R := ⟨_, rfl⟩
  rw [hR]
  unfold X.one at hR
  have B1 := balloc (Below.refl w.heap.size w) (.cells (oc o) 118)
  have hT : OAt w0 w _ L C m vi vo o := ⟨h.on B1, Kp.of_below B1, Bx.new⟩
  have hS : ∀ k, k ∈ L.S → k < w.heap.size := fun k hk => (K.S_lt h k hk).2
  have hx1 := hT.o.cell
  have hk3 := ok.kind
  obtain ⟨hr0, hr1⟩ := ok.oo.reg (.inl hk3)
  have hrl : o.reg.toNat < 16 := by omega
  have hreg := hT.at_.reg hrl
  have hml := h.box.lt
  clear B1
  have tnegq : (word == [110, 101, 103, 113]) = false := neq_beq (by rw [hw]; decide)
  have tnotq : (word == [110, 111, 116, 113]) = true := beq_iff_eq.2 hw
  obtain ⟨v, hv⟩ : ∃ v, -1 - m.regs o.reg.toNat = v := ⟨_, rfl⟩
  replace hR : setReg m o.reg.toNat v = R := by rw [← hR]; rw [if_neg (by rw [hw]; decide), if_pos hw]; rw [hv]
  have hv64 : In64 v := by rw [← hv]; have := h.ok.regs _ hrl; unfold In64 at this ⊢; omega
  have hv2 := not_bits (h.ok.regs _ hrl)
  rw [hv] at hv2
  have hfz := hT.at_.box.frozen
  have A1 := h.put (m' := setReg m o.reg.toNat v) K (1 + o.reg.toNat) (.int .i64 v) (mcells_set _ _ _ _ _ _ hrl v) h.inp rfl rfl rfl rfl (h.ok.setReg _ hv64)
  have A1 := Lib.hid A1
  replace hR := Lib.hid hR
  have hT := Lib.hid hT
  go_enter Tryz.func86, Tryz.ntmps86
  go_wp2_with fail
  go_region
  go_wp2_with fail
  refine bodyPost_end (v := .tuple #[]) (by simp [results, Tryz.results86, go_sem]) rfl ?_
  rw [← hR.out]
  exact ⟨rfl, A1.out.on (Below.drew (balloc (Below.refl _ _) _)), ((Kp.putM L.mb_S _ _).alloc _).drew⟩
set_option maxHeartbeats 4000000 in
set_option maxRecDepth 100000 in
theorem one_idivq (w0 w : World) (L : Lay) (C : Cd) (m : Mach) (vi vo : Value) (K : LOk w0 L C) (h : MAt w0 w L C m vi vo) (word : Str) (o : Opd) (ok : OneOk word o) (hw : word = [105, 100, 105, 118, 113]) :
    Calls Tryz.prog 86 #[.pointer (some ⟨L.mb, 0, none⟩), .string (St word), Ov o] w fun e w' => DoRet w0 w L C vi vo e w' (X.one C m word o) := by
  obtain ⟨R, hR⟩ : ∃ R, X.one C m word o = R := ⟨_, rfl⟩
  rw [hR]
  unfold X.one at hR
  have B1 := balloc (Below.refl w.heap.size w) (.cells (oc o) 118)
  have hT : OAt w0 w _ L C m vi vo o := ⟨h.on B1, Kp.of_below B1, Bx.new⟩
  have hS : ∀ k, k ∈ L.S → k < w.heap.size := fun k hk => (K.S_lt h k hk).2
  have hx1 := hT.o.cell
  have hk3 := ok.kind
  obtain ⟨hr0, hr1⟩ := ok.oo.reg (.inl hk3)
  have hrl : o.reg.toNat < 16 := by omega
  have hreg := hT.at_.reg hrl
  have hml := h.box.lt
  clear B1
  have tnegq : (word == [110, 101, 103, 113]) = false := neq_beq (by rw [hw]; decide)
  have tnotq : (word == [110, 111, 116, 113]) = false := neq_beq (by rw [hw]; decide)
  have tidivq : (word == [105, 100, 105, 118, 113]) = true := beq_iff_eq.2 hw
  replace hR : X.divide m true (m.regs o.reg.toNat) = R := by rw [← hR]; rw [if_neg (by rw [hw]; decide), if_neg (by rw [hw]; decide), if_pos (by rw [hw]; decide)]; rw [hw]; rfl
  have HD := fun w h => Lib.hid (divide_any w0 w L C m vi vo K h true (m.regs o.reg.toNat) (h.ok.regs _ hrl))
  have tww : (word == [105, 100, 105, 118, 113]) = true := by rw [hw]; decide
  replace hR := Lib.hid hR
  have hT := Lib.hid hT
  go_enter Tryz.func86, Tryz.ntmps86
  go_wp2_with fail
  go_region_with (go_at_call 122; refine ((HD _ ?_).out).mono ?_; exact hT.out.at_.on (Below.drew (Below.refl _ _)); rintro e w3 ⟨rfl, hM3, hK3⟩)
  all_goals
    go_wp2_with fail
    refine bodyPost_end (v := .tuple #[]) (by simp [results, Tryz.results86, go_sem]) rfl ?_
    rw [← hR.out]
    exact ⟨rfl, hM3, (hT.out.on (Below.drew (Below.refl _ _))).kp.trans hK3⟩
set_option maxHeartbeats 4000000 in
set_option maxRecDepth 100000 in
theorem one_divq (w0 w : World) (L : Lay) (C : Cd) (m : Mach) (vi vo : Value) (K : LOk w0 L C) (h : MAt w0 w L C m vi vo) (word : Str) (o : Opd) (ok : OneOk word o) (hw : word = [100, 105, 118, 113]) :
    Calls Tryz.prog 86 #[.pointer (some ⟨L.mb, 0, none⟩), .string (St word), Ov o] w fun e w' => DoRet w0 w L C vi vo e w' (X.one C m word o) := by
  obtain ⟨R, hR⟩ : ∃ R, X.one C m word o = R := ⟨_, rfl⟩
  rw [hR]
  unfold X.one at hR
  have B1 := balloc (Below.refl w.heap.size w) (.cells (oc o) 118)
  have hT : OAt w0 w _ L C m vi vo o := ⟨h.on B1, Kp.of_below B1, Bx.new⟩
  have hS : ∀ k, k ∈ L.S → k < w.heap.size := fun k hk => (K.S_lt h k hk).2
  have hx1 := hT.o.cell
  have hk3 := ok.kind
  obtain ⟨hr0, hr1⟩ := ok.oo.reg (.inl hk3)
  have hrl : o.reg.toNat < 16 := by omega
  have hreg := hT.at_.reg hrl
  have hml := h.box.lt
  clear B1
  have tnegq : (word == [110, 101, 103, 113]) = false := neq_beq (by rw [hw]; decide)
  have tnotq : (word == [110, 111, 116, 113]) = false := neq_beq (by rw [hw]; decide)
  have tidivq : (word == [105, 100, 105, 118, 113]) = false := neq_beq (by rw [hw]; decide)
  have tdivq : (word == [100, 105, 118, 113]) = true := beq_iff_eq.2 hw
  replace hR : X.divide m false (m.regs o.reg.toNat) = R := by rw [← hR]; rw [if_neg (by rw [hw]; decide), if_neg (by rw [hw]; decide), if_pos (by rw [hw]; decide)]; rw [hw]; rfl
  have HD := fun w h => Lib.hid (divide_any w0 w L C m vi vo K h false (m.regs o.reg.toNat) (h.ok.regs _ hrl))
  have tww : (word == [105, 100, 105, 118, 113]) = false := by rw [hw]; decide
  replace hR := Lib.hid hR
  have hT := Lib.hid hT
  go_enter Tryz.func86, Tryz.ntmps86
  go_wp2_with fail
  go_region_with (go_at_call 122; refine ((HD _ ?_).out).mono ?_; exact hT.out.at_.on (Below.drew (Below.refl _ _)); rintro e w3 ⟨rfl, hM3, hK3⟩)
  all_goals
    go_wp2_with fail
    refine bodyPost_end (v := .tuple #[]) (by simp [results, Tryz.results86, go_sem]) rfl ?_
    rw [← hR.out]
    exact ⟨rfl, hM3, (hT.out.on (Below.drew (Below.refl _ _))).kp.trans hK3⟩
set_option maxHeartbeats 4000000 in
set_option maxRecDepth 100000 in
theorem one_jmp (w0 w : World) (L : Lay) (C : Cd) (m : Mach) (vi vo : Value) (K : LOk w0 L C) (h : MAt w0 w L C m vi vo) (word : Str) (o : Opd) (ok : OneOk word o) (hw : word = [106, 109, 112]) :
    Calls Tryz.prog 86 #[.pointer (some ⟨L.mb, 0, none⟩), .string (St word), Ov o] w fun e w' => DoRet w0 w L C vi vo e w' (X.one C m word o) := by
  obtain ⟨R, hR⟩ : ∃ R, X.one C m word o = R := ⟨_, rfl⟩
  rw [hR]
  unfold X.one at hR
  have B1 := balloc (Below.refl w.heap.size w) (.cells (oc o) 118)
  have hT : OAt w0 w _ L C m vi vo o := ⟨h.on B1, Kp.of_below B1, Bx.new⟩
  have hS : ∀ k, k ∈ L.S → k < w.heap.size := fun k hk => (K.S_lt h k hk).2
  have hx1 := hT.o.cell
  have hk3 := ok.kind
  obtain ⟨hr0, hr1⟩ := ok.oo.reg (.inl hk3)
  have hrl : o.reg.toNat < 16 := by omega
  have hreg := hT.at_.reg hrl
  have hml := h.box.lt
  clear B1
  have tnegq : (word == [110, 101, 103, 113]) = false := neq_beq (by rw [hw]; decide)
  have tnotq : (word == [110, 111, 116, 113]) = false := neq_beq (by rw [hw]; decide)
  have tidivq : (word == [105, 100, 105, 118, 113]) = false := neq_beq (by rw [hw]; decide)
  have tdivq : (word == [100, 105, 118, 113]) = false := neq_beq (by rw [hw]; decide)
  have tjmp : (word == [106, 109, 112]) = true := beq_iff_eq.2 hw
  replace hR : X.leap C m (X.target C m o) = R := by rw [← hR]; rw [if_neg (by rw [hw]; decide), if_neg (by rw [hw]; decide), if_neg (by rw [hw]; decide), if_pos hw]
  have HA := fun w h => Lib.hid (target_any w0 w L C m vi vo K h o ok.oo hk3)
  have HL := fun w h => Lib.hid (leap_any w0 w L C m vi vo K h (X.target C m o))
  obtain ⟨a, ha⟩ : ∃ a, X.target C m o = a := ⟨_, rfl⟩
  rw [ha] at hR
  simp only [ha] at HA HL
  clear ha
  replace hR := Lib.hid hR
  have hT := Lib.hid hT
  go_enter Tryz.func86, Tryz.ntmps86
  go_wp2_with fail
  refine ((HA _ hT.out.at_).out).mono ?_
  rintro e w1 ⟨rfl, hb1⟩
  have hT1 := Lib.hid (hT.out.on hb1)
  go_wp2_with fail
  refine ((HL _ hT1.out.at_).out).mono ?_
  rintro e w3 ⟨rfl, hM3, hK3⟩
  go_wp2_with fail
  refine bodyPost_end (v := .tuple #[]) (by simp [results, Tryz.results86, go_sem]) rfl ?_
  rw [← hR.out]
  exact ⟨rfl, hM3, hT1.out.kp.trans hK3⟩
set_option maxHeartbeats 4000000 in
set_option maxRecDepth 100000 in
theorem one_calls (w0 w : World) (L : Lay) (C : Cd) (m : Mach) (vi vo : Value) (K : LOk w0 L C) (h : MAt w0 w L C m vi vo) (word : Str) (o : Opd) (ok : OneOk word o) (hw : word = [99, 97, 108, 108]) :
    Calls Tryz.prog 86 #[.pointer (some ⟨L.mb, 0, none⟩), .string (St word), Ov o] w fun e w' => DoRet w0 w L C vi vo e w' (X.one C m word o) := by
  obtain ⟨R, hR⟩ : ∃ R, X.one C m word o = R := ⟨_, rfl⟩
  rw [hR]
  unfold X.one at hR
  have B1 := balloc (Below.refl w.heap.size w) (.cells (oc o) 118)
  have hT : OAt w0 w _ L C m vi vo o := ⟨h.on B1, Kp.of_below B1, Bx.new⟩
  have hS : ∀ k, k ∈ L.S → k < w.heap.size := fun k hk => (K.S_lt h k hk).2
  have hx1 := hT.o.cell
  have hk3 := ok.kind
  obtain ⟨hr0, hr1⟩ := ok.oo.reg (.inl hk3)
  have hrl : o.reg.toNat < 16 := by omega
  have hreg := hT.at_.reg hrl
  have hml := h.box.lt
  clear B1
  have tnegq : (word == [110, 101, 103, 113]) = false := neq_beq (by rw [hw]; decide)
  have tnotq : (word == [110, 111, 116, 113]) = false := neq_beq (by rw [hw]; decide)
  have tidivq : (word == [105, 100, 105, 118, 113]) = false := neq_beq (by rw [hw]; decide)
  have tdivq : (word == [100, 105, 118, 113]) = false := neq_beq (by rw [hw]; decide)
  have tjmp : (word == [106, 109, 112]) = false := neq_beq (by rw [hw]; decide)
  have tcall : (word == [99, 97, 108, 108]) = true := beq_iff_eq.2 hw
  replace hR : X.leap C (X.push C m (268435456 + m.at_)) (X.target C m o) = R := by rw [← hR]; rw [if_neg (by rw [hw]; decide), if_neg (by rw [hw]; decide), if_neg (by rw [hw]; decide), if_neg (by rw [hw]; decide), if_pos hw]
  have HA := fun w h => Lib.hid (target_any w0 w L C m vi vo K h o ok.oo hk3)
  have HP := fun w h => Lib.hid (push_any w0 w L C m vi vo K h (268435456 + m.at_))
  have HL := fun w h => Lib.hid (leap_any w0 w L C (X.push C m (268435456 + m.at_)) vi vo K h (X.target C m o))
  obtain ⟨a, ha⟩ : ∃ a, X.target C m o = a := ⟨_, rfl⟩
  obtain ⟨m2, hm2⟩ : ∃ a, X.push C m (268435456 + m.at_) = a := ⟨_, rfl⟩
  rw [ha, hm2] at hR
  simp only [ha, hm2] at HA HL HP
  have a0 := h.ok.at0
  have a1 := h.ok.at1
  have hln := K.lines
  clear ha hm2
  replace hR := Lib.hid hR
  have hT := Lib.hid hT
  go_enter Tryz.func86, Tryz.ntmps86
  go_wp2_with fail
  refine ((HA _ hT.out.at_).out).mono ?_
  rintro e w1 ⟨rfl, hb1⟩
  have hT1 := Lib.hid (hT.out.on hb1)
  have hx2 := hT1.out.at_.box.cell
  go_wp2_with fail
  refine ((HP _ hT1.out.at_).out).mono ?_
  rintro e w2 ⟨rfl, hM2, hK2⟩
  go_wp2_with fail
  refine ((HL _ hM2).out).mono ?_
  rintro e w3 ⟨rfl, hM3, hK3⟩
  go_wp2_with fail
  refine bodyPost_end (v := .tuple #[]) (by simp [results, Tryz.results86, go_sem]) rfl ?_
  rw [← hR.out]
  exact ⟨rfl, hM3, (hT1.out.kp.trans hK2).trans hK3⟩
set_option maxHeartbeats 4000000 in
set_option maxRecDepth 100000 in
theorem one_pushq (w0 w : World) (L : Lay) (C : Cd) (m : Mach) (vi vo : Value) (K : LOk w0 L C) (h : MAt w0 w L C m vi vo) (word : Str) (o : Opd) (ok : OneOk word o) (hw : word = [112, 117, 115, 104, 113]) :
    Calls Tryz.prog 86 #[.pointer (some ⟨L.mb, 0, none⟩), .string (St word), Ov o] w fun e w' => DoRet w0 w L C vi vo e w' (X.one C m word o) := by
  obtain ⟨R, hR⟩ : ∃ R, X.one C m word o = R := ⟨_, rfl⟩
  rw [hR]
  unfold X.one at hR
  have B1 := balloc (Below.refl w.heap.size w) (.cells (oc o) 118)
  have hT : OAt w0 w _ L C m vi vo o := ⟨h.on B1, Kp.of_below B1, Bx.new⟩
  have hS : ∀ k, k ∈ L.S → k < w.heap.size := fun k hk => (K.S_lt h k hk).2
  have hx1 := hT.o.cell
  have hk3 := ok.kind
  obtain ⟨hr0, hr1⟩ := ok.oo.reg (.inl hk3)
  have hrl : o.reg.toNat < 16 := by omega
  have hreg := hT.at_.reg hrl
  have hml := h.box.lt
  clear B1
  have tnegq : (word == [110, 101, 103, 113]) = false := neq_beq (by rw [hw]; decide)
  have tnotq : (word == [110, 111, 116, 113]) = false := neq_beq (by rw [hw]; decide)
  have tidivq : (word == [105, 100, 105, 118, 113]) = false := neq_beq (by rw [hw]; decide)
  have tdivq : (word == [100, 105, 118, 113]) = false := neq_beq (by rw [hw]; decide)
  have tjmp : (word == [106, 109, 112]) = false := neq_beq (by rw [hw]; decide)
  have tcall : (word == [99, 97, 108, 108]) = false := neq_beq (by rw [hw]; decide)
  have tpushq : (word == [112, 117, 115, 104, 113]) = true := beq_iff_eq.2 hw
  replace hR : X.push C m (m.regs o.reg.toNat) = R := by rw [← hR]; rw [if_neg (by rw [hw]; decide), if_neg (by rw [hw]; decide), if_neg (by rw [hw]; decide), if_neg (by rw [hw]; decide), if_neg (by rw [hw]; decide), if_pos hw]
  have HD := fun w h => Lib.hid (push_any w0 w L C m vi vo K h (m.regs o.reg.toNat))
  replace hR := Lib.hid hR
  have hT := Lib.hid hT
  go_enter Tryz.func86, Tryz.ntmps86
  go_wp2_with fail
  go_region_with (go_at_call 53; refine ((HD _ ?_).out).mono ?_; exact hT.out.at_.on (Below.drew (Below.refl _ _)); rintro e w3 ⟨rfl, hM3, hK3⟩)
  all_goals
    go_wp2_with fail
    refine bodyPost_end (v := .tuple #[]) (by simp [results, Tryz.results86, go_sem]) rfl ?_
    rw [← hR.out]
    exact ⟨rfl, hM3, (hT.out.on (Below.drew (Below.refl _ _))).kp.trans hK3⟩
set_option maxHeartbeats 4000000 in
set_option maxRecDepth 100000 in
theorem one_popq (w0 w : World) (L : Lay) (C : Cd) (m : Mach) (vi vo : Value) (K : LOk w0 L C) (h : MAt w0 w L C m vi vo) (word : Str) (o : Opd) (ok : OneOk word o) (hw : word = [112, 111, 112, 113]) :
    Calls Tryz.prog 86 #[.pointer (some ⟨L.mb, 0, none⟩), .string (St word), Ov o] w fun e w' => DoRet w0 w L C vi vo e w' (X.one C m word o) := by
  obtain ⟨R, hR⟩ : ∃ R, X.one C m word o = R := ⟨_, rfl⟩
  rw [hR]
  unfold X.one at hR
  have B1 := balloc (Below.refl w.heap.size w) (.cells (oc o) 118)
  have hT : OAt w0 w _ L C m vi vo o := ⟨h.on B1, Kp.of_below B1, Bx.new⟩
  have hS : ∀ k, k ∈ L.S → k < w.heap.size := fun k hk => (K.S_lt h k hk).2
  have hx1 := hT.o.cell
  have hk3 := ok.kind
  obtain ⟨hr0, hr1⟩ := ok.oo.reg (.inl hk3)
  have hrl : o.reg.toNat < 16 := by omega
  have hreg := hT.at_.reg hrl
  have hml := h.box.lt
  clear B1
  have tnegq : (word == [110, 101, 103, 113]) = false := neq_beq (by rw [hw]; decide)
  have tnotq : (word == [110, 111, 116, 113]) = false := neq_beq (by rw [hw]; decide)
  have tidivq : (word == [105, 100, 105, 118, 113]) = false := neq_beq (by rw [hw]; decide)
  have tdivq : (word == [100, 105, 118, 113]) = false := neq_beq (by rw [hw]; decide)
  have tjmp : (word == [106, 109, 112]) = false := neq_beq (by rw [hw]; decide)
  have tcall : (word == [99, 97, 108, 108]) = false := neq_beq (by rw [hw]; decide)
  have tpushq : (word == [112, 117, 115, 104, 113]) = false := neq_beq (by rw [hw]; decide)
  have tpopq : (word == [112, 111, 112, 113]) = true := beq_iff_eq.2 hw
  replace hR : X.move C (X.pop C m).1 o (X.pop C m).2 8 = R := by rw [← hR]; rw [if_neg (by rw [hw]; decide), if_neg (by rw [hw]; decide), if_neg (by rw [hw]; decide), if_neg (by rw [hw]; decide), if_neg (by rw [hw]; decide), if_neg (by rw [hw]; decide), if_pos hw]
  have HP := fun w h => Lib.hid (pop_any w0 w L C m vi vo K h)
  have hv : In64 (X.pop C m).2 := load_in64 C m _ 64 true (by omega)
  obtain ⟨q, hq⟩ : ∃ a, X.pop C m = a := ⟨_, rfl⟩
  rw [hq] at hR hv
  simp only [hq] at HP
  have HM := fun w h => Lib.hid (move_any w0 w L C q.1 vi vo K h o ok.oo q.2 hv 8 (by decide))
  clear hq
  replace hR := Lib.hid hR
  have hT := Lib.hid hT
  go_enter Tryz.func86, Tryz.ntmps86
  go_wp2_with fail
  refine ((HP _ hT.out.at_).out).mono ?_
  rintro e w1 ⟨rfl, hM1, hK1⟩
  have hT1 := Lib.hid (hT.out.turn hS hM1 hK1)
  have hx2 := hT1.out.o.cell
  go_wp2_with fail
  refine ((HM _ hM1).out).mono ?_
  rintro e w3 ⟨rfl, hM3, hK3⟩
  go_wp2_with fail
  refine bodyPost_end (v := .tuple #[]) (by simp [results, Tryz.results86, go_sem]) rfl ?_
  rw [← hR.out]
  exact ⟨rfl, hM3, hT1.out.kp.trans hK3⟩
end Go.Proofs.YtfkfdffhajokkaaGreatDoor
/- How package x86's machine does sets and jumps; conditions: a machine that lies in memory, operands as they are read. -/
namespace Go.Proofs.YtfkfdffhajokkaaGreatDoor
open Go.RowKit X
set_option linter.unusedSimpArgs false
set_option maxHeartbeats 4000000 in
set_option maxRecDepth 100000 in
theorem one_sets (w0 w : World) (L : Lay) (C : Cd) (m : Mach) (vi vo : Value) (K : LOk w0 L C) (h : MAt w0 w L C m vi vo) (word : Str) (o : Opd) (ok : OneOk word o) (nnegq : word ≠ [110, 101, 103, 113]) (nnotq : word ≠ [110, 111, 116, 113]) (nidivq : word ≠ [105, 100, 105, 118, 113]) (ndivq : word ≠ [100, 105, 118, 113]) (njmp : word ≠ [106, 109, 112]) (ncall : word ≠ [99, 97, 108, 108]) (npushq : word ≠ [112, 117, 115, 104, 113]) (npopq : word ≠ [112, 111, 112, 113]) (hp : Lib.hasPrefix word [115, 101, 116] = true) :
    Calls Tryz.prog 86 #[.pointer (some ⟨L.mb, 0, none⟩), .string (St word), Ov o] w fun e w' => DoRet w0 w L C vi vo e w' (X.one C m word o) := by
  obtain ⟨R, hR⟩ : ∃ R, X.one C m word o = R := ⟨_, rfl⟩
  rw [hR]
  unfold X.one at hR
  have B1 := balloc (Below.refl w.heap.size w) (.cells (oc o) 118)
  have hT : OAt w0 w _ L C m vi vo o := ⟨h.on B1, Kp.of_below B1, Bx.new⟩
  have hS : ∀ k, k ∈ L.S → k < w.heap.size := fun k hk => (K.S_lt h k hk).2
  have hx1 := hT.o.cell
  have hk3 := ok.kind
  obtain ⟨hr0, hr1⟩ := ok.oo.reg (.inl hk3)
  have hrl : o.reg.toNat < 16 := by omega
  have hreg := hT.at_.reg hrl
  have hml := h.box.lt
  clear B1
  have tnegq := neq_beq nnegq
  have tnotq := neq_beq nnotq
  have tidivq := neq_beq nidivq
  have tdivq := neq_beq ndivq
  have tjmp := neq_beq njmp
  have tcall := neq_beq ncall
  have tpushq := neq_beq npushq
  have tpopq := neq_beq npopq
  obtain ⟨x, hx⟩ : ∃ x, Lib.trimPrefix word [115, 101, 116] = x := ⟨_, rfl⟩
  have HC := fun w => Lib.hid (CutPrefix_is (St word) [115, 101, 116] x true (by rw [bl_St]; exact hx) (by rw [bl_St]; exact hp) w)
  have HH := fun w h => Lib.hid (holds_any w0 w L C m vi vo K h x)
  obtain ⟨q, hq⟩ : ∃ q, X.holds m x = q := ⟨_, rfl⟩
  replace hR : X.move C q.1 o (Go.bits .or .i64 (Go.bits .andNot .i64 (q.1.regs o.reg.toNat) 255) (if q.2 then 1 else 0)) 1 = R := by rw [← hR]; rw [if_neg nnegq, if_neg nnotq, if_neg (show ¬ (word = [105, 100, 105, 118, 113] ∨ word = [100, 105, 118, 113]) from fun h => h.elim nidivq ndivq), if_neg njmp, if_neg ncall, if_neg npushq, if_neg npopq, if_pos hp]; simp only [hx, hq]
  simp only [hq] at HH
  have hv64 : In64 (Go.bits .or .i64 (Go.bits .andNot .i64 (q.1.regs o.reg.toNat) 255) (if q.2 then 1 else 0)) := bits_in64 _ _ _ (.inr (.inl rfl))
  have HM := fun w h => Lib.hid (move_any w0 w L C q.1 vi vo K h o ok.oo _ hv64 1 (by decide))
  have key : ∀ b : Bool, q.2 = b → Calls Tryz.prog 86 #[.pointer (some ⟨L.mb, 0, none⟩), .string (St word), Ov o] w fun e w' => DoRet w0 w L C vi vo e w' R := by
    intro b hb
    rw [hb] at hR HM hv64
    obtain ⟨v, hv⟩ : ∃ v, Go.bits .or .i64 (Go.bits .andNot .i64 (q.1.regs o.reg.toNat) 255) (if b then 1 else 0) = v := ⟨_, rfl⟩
    rw [hv] at hR
    simp only [hv] at HM
    replace hR := Lib.hid hR
    replace hT := Lib.hid hT
    clear hq hx hp hv64 nnegq nnotq nidivq ndivq njmp ncall npushq npopq
    cases b
    all_goals
      simp only [Bool.false_eq_true, if_false, if_true] at hv
      go_enter Tryz.func86, Tryz.ntmps86
      go_wp2_with fail
      refine ((HC _).out).mono ?_
      rintro e w1 ⟨rfl, rfl⟩
      go_wp2_with fail
      refine ((HH _ hT.out.at_).out).mono ?_
      rintro e w2 ⟨rfl, hM2, hK2⟩
      have hT2 := hT.out.turn hS hM2 hK2
      have hx2 := hT2.o.cell
      have hreg2 := hM2.reg hrl
      have hT2 := Lib.hid hT2
      clear hx1 hreg
      go_wp2_with fail
      go_region_with (go_at_call 113; refine ((HM _ ?_).out).mono ?_; exact hM2.on (Below.drew (Below.refl _ _)); rintro e w3 ⟨rfl, hM3, hK3⟩)
      all_goals
        go_wp2_with fail
        refine bodyPost_ret (v := .tuple #[]) (by simp [results, Tryz.results86, go_sem]) rfl ?_
        rw [← hR.out]
        exact ⟨rfl, hM3, (hT2.out.on (Below.drew (Below.refl _ _))).kp.trans hK3⟩
  exact key _ rfl
set_option maxHeartbeats 4000000 in
set_option maxRecDepth 100000 in
theorem one_js (w0 w : World) (L : Lay) (C : Cd) (m : Mach) (vi vo : Value) (K : LOk w0 L C) (h : MAt w0 w L C m vi vo) (word : Str) (o : Opd) (ok : OneOk word o) (nnegq : word ≠ [110, 101, 103, 113]) (nnotq : word ≠ [110, 111, 116, 113]) (nidivq : word ≠ [105, 100, 105, 118, 113]) (ndivq : word ≠ [100, 105, 118, 113]) (njmp : word ≠ [106, 109, 112]) (ncall : word ≠ [99, 97, 108, 108]) (npushq : word ≠ [112, 117, 115, 104, 113]) (npopq : word ≠ [112, 111, 112, 113]) (hp : Lib.hasPrefix word [115, 101, 116] = false) (hlen : word.length < 9223372036854775807) :
    Calls Tryz.prog 86 #[.pointer (some ⟨L.mb, 0, none⟩), .string (St word), Ov o] w fun e w' => DoRet w0 w L C vi vo e w' (X.one C m word o) := by
  obtain ⟨R, hR⟩ : ∃ R, X.one C m word o = R := ⟨_, rfl⟩
  rw [hR]
  unfold X.one at hR
  have B1 := balloc (Below.refl w.heap.size w) (.cells (oc o) 118)
  have hT : OAt w0 w _ L C m vi vo o := ⟨h.on B1, Kp.of_below B1, Bx.new⟩
  have hS : ∀ k, k ∈ L.S → k < w.heap.size := fun k hk => (K.S_lt h k hk).2
  have hx1 := hT.o.cell
  have hk3 := ok.kind
  obtain ⟨hr0, hr1⟩ := ok.oo.reg (.inl hk3)
  have hrl : o.reg.toNat < 16 := by omega
  have hreg := hT.at_.reg hrl
  have hml := h.box.lt
  clear B1
  have tnegq := neq_beq nnegq
  have tnotq := neq_beq nnotq
  have tidivq := neq_beq nidivq
  have tdivq := neq_beq ndivq
  have tjmp := neq_beq njmp
  have tcall := neq_beq ncall
  have tpushq := neq_beq npushq
  have tpopq := neq_beq npopq
  obtain ⟨x, hx⟩ : ∃ x, Lib.trimPrefix word [115, 101, 116] = x := ⟨_, rfl⟩
  have HC := fun w => Lib.hid (CutPrefix_is (St word) [115, 101, 116] x false (by rw [bl_St]; exact hx) (by rw [bl_St]; exact hp) w)
  have HH := fun w h => Lib.hid (holds_any w0 w L C m vi vo K h (word.drop 1))
  have hxe : (St word).extract 1 word.length = St (word.drop 1) := by have := drop_extract word 1; rw [St_size] at this; exact this
  have hw1 := ok.word
  have hw2 : (1 : Int) ≤ (word.length : Int) := by omega
  obtain ⟨q, hq⟩ : ∃ q, X.holds m (word.drop 1) = q := ⟨_, rfl⟩
  replace hR : (if q.2 then leap C q.1 (target C q.1 o) else q.1) = R := by rw [← hR]; rw [if_neg nnegq, if_neg nnotq, if_neg (show ¬ (word = [105, 100, 105, 118, 113] ∨ word = [100, 105, 118, 113]) from fun h => h.elim nidivq ndivq), if_neg njmp, if_neg ncall, if_neg npushq, if_neg npopq, if_neg (show ¬ (Lib.hasPrefix word [115, 101, 116] = true) by simp [hp])]; simp only [hq]
  simp only [hq] at HH
  have hw64 : word.length < 9223372036854775807 := hlen
  have HA := fun w h => Lib.hid (target_any w0 w L C q.1 vi vo K h o ok.oo hk3)
  have HL := fun w h => Lib.hid (leap_any w0 w L C q.1 vi vo K h (X.target C q.1 o))
  obtain ⟨a, ha⟩ : ∃ a, X.target C q.1 o = a := ⟨_, rfl⟩
  rw [ha] at hR
  simp only [ha] at HA HL
  have key : ∀ b : Bool, q.2 = b → Calls Tryz.prog 86 #[.pointer (some ⟨L.mb, 0, none⟩), .string (St word), Ov o] w fun e w' => DoRet w0 w L C vi vo e w' R := by
    intro b hb
    rw [hb] at hR
    replace hR := Lib.hid hR
    replace hT := Lib.hid hT
    have hxe2 := Lib.hid hxe
    clear hq hx hp ha nnegq nnotq nidivq ndivq njmp ncall npushq npopq hxe
    cases b
    · go_enter Tryz.func86, Tryz.ntmps86
      go_wp2_with fail
      refine ((HC _).out).mono ?_
      rintro e w1 ⟨rfl, rfl⟩
      go_wp2_with fail
      rw [hxe2.out]
      refine ((HH _ hT.out.at_).out).mono ?_
      rintro e w2 ⟨rfl, hM2, hK2⟩
      have hT2 := Lib.hid (hT.out.turn hS hM2 hK2)
      clear hx1 hreg
      go_wp2_with fail
      refine bodyPost_end (v := .tuple #[]) (by simp [results, Tryz.results86, go_sem]) rfl ?_
      rw [← hR.out]
      exact ⟨rfl, hM2, hT2.out.kp⟩
    · go_enter Tryz.func86, Tryz.ntmps86
      go_wp2_with fail
      refine ((HC _).out).mono ?_
      rintro e w1 ⟨rfl, rfl⟩
      go_wp2_with fail
      rw [hxe2.out]
      refine ((HH _ hT.out.at_).out).mono ?_
      rintro e w2 ⟨rfl, hM2, hK2⟩
      have hT2 := hT.out.turn hS hM2 hK2
      have hx2 := hT2.o.cell
      have hT2 := Lib.hid hT2
      clear hx1 hreg
      go_wp2_with fail
      refine ((HA _ hM2).out).mono ?_
      rintro e w3 ⟨rfl, hb3⟩
      have hT3 := Lib.hid (hT2.out.on hb3)
      go_wp2_with fail
      refine ((HL _ hT3.out.at_).out).mono ?_
      rintro e w4 ⟨rfl, hM4, hK4⟩
      go_wp2_with fail
      refine bodyPost_end (v := .tuple #[]) (by simp [results, Tryz.results86, go_sem]) rfl ?_
      rw [← hR.out]
      exact ⟨rfl, hM4, hT3.out.kp.trans hK4⟩
  exact key _ rfl
set_option maxHeartbeats 4000000 in
set_option maxRecDepth 100000 in
theorem one_any (w0 w : World) (L : Lay) (C : Cd) (m : Mach) (vi vo : Value) (K : LOk w0 L C) (h : MAt w0 w L C m vi vo) (word : Str) (o : Opd) (ok : OneOk word o) (hlen : word.length < 9223372036854775807) :
    Calls Tryz.prog 86 #[.pointer (some ⟨L.mb, 0, none⟩), .string (St word), Ov o] w fun e w' => DoRet w0 w L C vi vo e w' (X.one C m word o) := by
  by_cases c1 : word = [110, 101, 103, 113]
  · exact one_negq w0 w L C m vi vo K h word o ok c1
  by_cases c2 : word = [110, 111, 116, 113]
  · exact one_notq w0 w L C m vi vo K h word o ok c2
  by_cases c3 : word = [105, 100, 105, 118, 113]
  · exact one_idivq w0 w L C m vi vo K h word o ok c3
  by_cases c4 : word = [100, 105, 118, 113]
  · exact one_divq w0 w L C m vi vo K h word o ok c4
  by_cases c5 : word = [106, 109, 112]
  · exact one_jmp w0 w L C m vi vo K h word o ok c5
  by_cases c6 : word = [99, 97, 108, 108]
  · exact one_calls w0 w L C m vi vo K h word o ok c6
  by_cases c7 : word = [112, 117, 115, 104, 113]
  · exact one_pushq w0 w L C m vi vo K h word o ok c7
  by_cases c8 : word = [112, 111, 112, 113]
  · exact one_popq w0 w L C m vi vo K h word o ok c8
  cases hp : Lib.hasPrefix word [115, 101, 116] with
  | true => exact one_sets w0 w L C m vi vo K h word o ok c1 c2 c3 c4 c5 c6 c7 c8 hp
  | false => exact one_js w0 w L C m vi vo K h word o ok c1 c2 c3 c4 c5 c6 c7 c8 hp hlen
end Go.Proofs.YtfkfdffhajokkaaGreatDoor
/- How package x86's machine does any instruction of two operands; conditions: a machine that lies in memory, operands as they are read. -/
namespace Go.Proofs.YtfkfdffhajokkaaGreatDoor
open Go.RowKit X
theorem two_any (w0 w : World) (L : Lay) (C : Cd) (m : Mach) (vi vo : Value) (K : LOk w0 L C) (h : MAt w0 w L C m vi vo) (word : Str) (ad : Option Addr) (n cap : Nat) (fr tg : Opd) (ok : TwoOk word fr tg) :
    Calls Tryz.prog 85 #[.pointer (some ⟨L.mb, 0, none⟩), .agg #[.string (St word), .slice ad n cap], Ov fr, Ov tg] w fun e w' => DoRet w0 w L C vi vo e w' (X.two C m word fr tg) := by
  cases he : extTab.lookup word with
  | some p => exact two_ext w0 w L C m vi vo K h word ad n cap fr tg ok p.1 p.2 he
  | none =>
    cases hp : partTab.lookup word with
    | some p => exact two_part w0 w L C m vi vo K h word ad n cap fr tg ok p he hp
    | none =>
      cases hs : sumTab.lookup word with
      | some sub => exact two_sums w0 w L C m vi vo K h word ad n cap fr tg ok sub he hp hs
      | none =>
        by_cases h1 : word = [108, 101, 97, 113]
        · rcases ok.lea h1 with hk | hk
          · exact two_lea3 w0 w L C m vi vo K h word ad n cap fr tg ok he hp hs h1 hk
          · exact two_lea4 w0 w L C m vi vo K h word ad n cap fr tg ok he hp hs h1 hk
        · by_cases h2 : word = [99, 109, 112, 113]
          · exact two_cmps w0 w L C m vi vo K h word ad n cap fr tg ok he hp hs h2
          · by_cases h3 : word = [116, 101, 115, 116, 113]
            · exact two_tests w0 w L C m vi vo K h word ad n cap fr tg ok he hp hs h3
            · exact two_moves w0 w L C m vi vo K h word ad n cap fr tg ok he hp hs h1 h2 h3
end Go.Proofs.YtfkfdffhajokkaaGreatDoor
