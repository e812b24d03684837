/- How package x86's machine puts out a byte, and comes to the end of its lines; what a step of it answers; conditions: a machine that lies in memory, lines as they are read, an output shorter than 2^32. -/
import Derived.Test.YtfkfdffhajokkaaGreatDoorA33
import Derived.Deep.LoopGhost
namespace Go.Proofs.YtfkfdffhajokkaaGreatDoor
open Go.RowKit X
set_option linter.unusedSimpArgs false
theorem wrap_u8 (n : Int) : IntKind.u8.wrap n = ((X.byteOf n 0).toNat : Int) := by
  have e : (X.byteOf n 0).toNat = (n % 18446744073709551616).toNat % 256 := by
    unfold X.byteOf
    rw [UInt8.toNat_ofNat']
    simp
  rw [e]
  unfold IntKind.wrap
  simp [IntKind.signed, IntKind.bits]
  omega
/-- The output has grown. -/
theorem MAt.outs {w0 w w' : World} {L : Lay} {C : Cd} {m : Mach} {vi vo v' : Value} (h : MAt w0 w L C m vi vo) (K : LOk w0 L C) (b : UInt8) (G : w.grownBy w' vo.ownBlock)
    (O' : w'.ownsRow L.B 5 1 v' (m.out.length + 1) ((m.out.map fun b => Value.int .u8 (b.toNat : Int)) ++ [.int .u8 (b.toNat : Int)])) : MAt w0 (w'.setCell ⟨L.mb, 26, none⟩ v') L C { m with out := m.out ++ [b] } vi v' := by
  have hB : ∀ k, vo.ownBlock = some k → L.B ≤ k := fun k hk => (h.out.lt k hk).1
  have hbl : ∀ k, k < w.heap.size → k < L.B → k ≠ L.mb → (w'.setCell ⟨L.mb, 26, none⟩ v').heap[k]? = w.heap[k]? := fun k hk hl hm =>
    (Below.heap_setCell w' ⟨L.mb, 26, none⟩ v' k hm).trans (G.block k hk (fun e => by have := hB k e.symm; omega))
  have hbm : ∀ k, vo.ownBlock = some k → k ≠ L.mb := h.box.ne_row h.out (by decide)
  have hmb : Bx w' L.mb (mcells L.p m (.slice L.ad C.data.length L.dcap) (.slice (some ⟨L.sb, 0, none⟩) L.sN L.sN) vi vo) 88 := h.box.of_block (G.block _ h.box.lt (fun e => hbm _ e.symm rfl))
  have hsB := K.sB
  have hsb := K.sb
  refine ⟨h.below.trans ⟨G.os, G.tape, G.output, by rw [size_setCell]; exact G.size, fun k hk => ?_⟩, ?_, ?_, ?_, h.inp, ?_, ⟨h.ok.regs, h.ok.x, h.ok.y, h.ok.at0, h.ok.at1, h.ok.kind, h.ok.code, h.ok.least⟩, h.sN, by rw [size_setCell]; exact Nat.le_trans h.hi G.size⟩
  · exact hbl k (Nat.lt_of_lt_of_le hk h.below.size) (by omega) (by have := K.mb; omega)
  · exact hmb.set (i := 26) (v := v')
  · exact h.data.of_block fun a c ha hc => hbl _ hc.lt (K.ad a ha).2.2 (hc.ne h.box (by decide))
  · exact h.stack.of_block fun a c ha hc => by cases ha; exact hbl _ hc.lt hsB (hc.ne h.box (by decide))
  · have e : ((m.out ++ [b]).map fun b => Value.int .u8 (b.toNat : Int)) = (m.out.map fun b => Value.int .u8 (b.toNat : Int)) ++ [.int .u8 (b.toNat : Int)] := by simp
    show World.ownsRow _ L.B 5 1 v' (m.out ++ [b]).length ((m.out ++ [b]).map fun b => Value.int .u8 (b.toNat : Int))
    rw [e, List.length_append, List.length_singleton]
    exact ownsRow_of_block O' fun k hk => Below.heap_setCell w' ⟨L.mb, 26, none⟩ v' k (hmb.ne_row O' (by decide) k hk)
set_option maxHeartbeats 4000000 in
set_option maxRecDepth 100000 in
theorem step_sysout (w0 w : World) (L : Lay) (C : Cd) (m : Mach) (vi vo : Value) (K : LOk w0 L C) (h : MAt w0 w L C m vi vo) (i : Nat) (hat : m.at_ = i) (hi : i < C.lines.length) (l : Ln) (hl : C.lines.getD i ⟨[], []⟩ = l) (n1 : l.ops.length ≠ 1) (n2 : l.ops.length ≠ 2) (hw : l.word = [115, 121, 115, 111, 117, 116]) (hol : m.out.length + 1 ≤ 4294967296) :
    Calls Tryz.prog 55 #[.pointer (some ⟨L.mb, 0, none⟩)] w fun e w' => StpRet w0 L C e w' (X.none' C { m with at_ := (i : Int) + 1 } l.word) := by
  obtain ⟨R, hR⟩ : ∃ R, X.none' C { m with at_ := (i : Int) + 1 } l.word = R := ⟨_, rfl⟩
  rw [hR]
  have z1 := Lib.hid (show ((l.ops.length : Int) == 1) = false from beq_f (by omega))
  have z2 := Lib.hid (show ((l.ops.length : Int) == 2) = false from beq_f (by omega))
  clear n1 n2
  unfold X.none' at hR; rw [if_neg (by rw [hw]; decide), if_neg (by rw [hw]; decide), if_neg (by rw [hw]; decide), if_pos hw] at hR
  have t0 := Lib.hid (show (l.word == [114, 101, 116]) = false from neq_beq (by rw [hw]; decide))
  have t1 := Lib.hid (show (l.word == [99, 113, 116, 111]) = false from neq_beq (by rw [hw]; decide))
  have t2 := Lib.hid (show (l.word == [115, 121, 115, 105, 110]) = false from neq_beq (by rw [hw]; decide))
  have t3 := Lib.hid (show (l.word == [115, 121, 115, 111, 117, 116]) = true from beq_iff_eq.2 hw)
  replace hR := Lib.hid hR
  clear hw
  obtain ⟨g, cap, v, LA0⟩ := line_at K hi
  rw [hl] at LA0
  obtain ⟨BL, hops⟩ := LA0.ops
  obtain ⟨adv, capv, rfl, -⟩ := ownsRow_at hops
  have LA := LA0.below h.below
  have hx := h.box.cell
  have hf := h.box.frozen
  have hmb := h.box.lt
  have hrows := LA.rows
  have hword := LA.word
  have hv := LA.vcell
  have hi' : (i : Int) < (C.lines.length : Int) := by omega
  have hln := K.lines
  have hwr : IntKind.i64.wrap ((i : Int) + 1) = (i : Int) + 1 := by rw [IntKind.wrap_i64]; omega
  have hh := Lib.hid h
  have hc0 : w.cell? ⟨L.mb, 0, none⟩ = some (.pointer (some ⟨L.p, 0, none⟩)) := by rw [hx]; rfl
  have hc17 : w.cell? ⟨L.mb, 17, none⟩ = some (.int .i64 (i : Int)) := by rw [hx, ← hat]; rfl
  clear hx
  go_enter Tryz.func55, Tryz.ntmps55
  go_wp2_with fail
  go_quiet (fail)
  go_wp2_with fail
  go_cut [2] (fun s2 wx => s2 = .pointer (some ⟨w.heap.size, 0, none⟩) ∧ Bx wx w.heap.size #[.string (St l.word), .slice adv l.ops.length capv] 75 ∧ MAt w0 wx L C m vi vo ∧ Kp L.S w wx)
  case first =>
    have hnb : ∀ (k j : Nat), ((w.drewN k).alloc (.cells #[.string ⟨#[]⟩, .slice none 0 0] 75)).cell? ⟨w.heap.size, j, none⟩ = (#[.string ⟨#[]⟩, .slice none 0 0] : Array Value)[j]? := fun k j => (Bx.new (w := w.drewN k) (c := #[.string ⟨#[]⟩, .slice none 0 0]) (T := 75)).cell j
    have hnf : ∀ (k j : Nat), ((w.drewN k).alloc (.cells #[.string ⟨#[]⟩, .slice none 0 0] 75)).frozen? ⟨w.heap.size, j, none⟩ = false := fun k j => (Bx.new (w := w.drewN k) (c := #[.string ⟨#[]⟩, .slice none 0 0]) (T := 75)).frozen j
    go_region_held3 (fun w' => w'.cell? ⟨L.mb, 0, none⟩ = some (.pointer (some ⟨L.p, 0, none⟩)) ∧ w'.cell? ⟨L.mb, 17, none⟩ = some (.int .i64 (i : Int)) ∧ w'.cell? ⟨L.p, 1, none⟩ = some (.slice (some ⟨g, 0, none⟩) C.lines.length cap) ∧ w'.cell? ⟨g, i * 2, none⟩ = some (.string (St l.word)) ∧ w'.cell? ⟨g, i * 2 + 1, none⟩ = some (.slice adv l.ops.length capv)) ((refine fetch_held (hh.out.on ?_) (LA.below ?_) hat; all_goals ((repeat' (first | with_reducible assumption | with_reducible exact Below.refl _ _ | (with_reducible refine below_drewN ?_ _) | (with_reducible refine Below.drew ?_) | (with_reducible refine balloc ?_ _) | (with_reducible refine Below.setCell ?_ (by first | exact Nat.le_refl _ | (simp; done) | omega | (simp; omega)) _) | (with_reducible refine bstep ?_ (by with_reducible assumption))))))) (fail)
    all_goals
      go_wp2_with fail
      go_meet
      refine ⟨rfl, ?_, ?_, ?_⟩
      · exact Bx.set (i := 1) (v := .slice adv l.ops.length capv) (Bx.set (i := 0) (v := .string (St l.word)) (Bx.new (w := w.drewN (nq + 1)) (c := #[.string ⟨#[]⟩, .slice none 0 0]) (T := 75)))
      · exact hh.out.on (by (repeat' (first | with_reducible assumption | with_reducible exact Below.refl _ _ | (with_reducible refine below_drewN ?_ _) | (with_reducible refine Below.drew ?_) | (with_reducible refine balloc ?_ _) | (with_reducible refine Below.setCell ?_ (by first | exact Nat.le_refl _ | (simp; done) | omega | (simp; omega)) _) | (with_reducible refine bstep ?_ (by with_reducible assumption)))))
      · exact Kp.of_below (by (repeat' (first | with_reducible assumption | with_reducible exact Below.refl _ _ | (with_reducible refine below_drewN ?_ _) | (with_reducible refine Below.drew ?_) | (with_reducible refine balloc ?_ _) | (with_reducible refine Below.setCell ?_ (by first | exact Nat.le_refl _ | (simp; done) | omega | (simp; omega)) _) | (with_reducible refine bstep ?_ (by with_reducible assumption)))))
  case rest =>
    obtain ⟨rfl, X2, M2, K2⟩ := hcut
    clear hc0 hc17 hrows hword hv hf hh LA
    have hf2 := M2.box.frozen
    have hne2 : w.heap.size ≠ L.mb := by omega
    have hc17b : wc.cell? ⟨L.mb, 17, none⟩ = some (.int .i64 (i : Int)) := by rw [M2.box.cell, ← hat]; rfl
    have A1 := M2.put (m' := { m with at_ := (i : Int) + 1 }) K 17 (.int .i64 ((i : Int) + 1)) rfl M2.inp rfl rfl rfl rfl ⟨M2.ok.regs, M2.ok.x, M2.ok.y, by simp only; omega, by simp only; omega, M2.ok.kind, M2.ok.code, M2.ok.least⟩
    have X3 : Bx (wc.setCell ⟨L.mb, 17, none⟩ (.int .i64 ((i : Int) + 1))) w.heap.size #[.string (St l.word), .slice adv l.ops.length capv] 75 := X2.other hne2
    have K3 : Kp L.S w (wc.setCell ⟨L.mb, 17, none⟩ (.int .i64 ((i : Int) + 1))) := K2.setCell _ (.inl L.mb_S)
    have A1 := Lib.hid A1
    have X3 := Lib.hid X3
    have K3 := Lib.hid K3
    clear X2 M2 K2
    go_upto_region 4 with fail
    generalize wc.setCell ⟨L.mb, 17, none⟩ (.int .i64 ((i : Int) + 1)) = wd at *
    clear hf2 hc17b
    have A1 := A1.out
    have X3 := X3.out
    have LA := LA0.below A1.below
    obtain ⟨BD, hopd⟩ := LA.ops
    have hx3 := X3.cell
    replace z1 := z1.out
    replace z2 := z2.out
    replace t0 := t0.out
    replace t1 := t1.out
    replace t2 := t2.out
    replace t3 := t3.out
    have hw8 := wrap_u8 (m.regs 5)
    obtain ⟨b, hb⟩ : ∃ b, X.byteOf (m.regs 5) 0 = b := ⟨_, rfl⟩
    rw [hb] at hw8
    obtain ⟨ado, capo, hvo, -⟩ := ownsRow_at A1.out
    have hvo2 : vo = .slice ado m.out.length capo := hvo
    subst hvo2
    have A2 := A1.on (Below.drew (balloc (Below.refl _ wd) (.cells #[.int .u8 (b.toNat : Int)] 5)))
    have hx1 := A1.box.cell
    have hx2 := A2.box.cell
    have hnr : (Value.slice ado m.out.length capo).ownBlock ≠ some L.mb := fun e => A2.box.ne_row A2.out (by decide) _ e rfl
    have hnr := Lib.hid hnr
    have hnews : ∀ j, j < 1 → ((wd.alloc (.cells #[.int .u8 (b.toNat : Int)] 5)).drew).cell? ⟨wd.heap.size, j, none⟩ = [Value.int .u8 (b.toNat : Int)][j]? := fun j hj => by
      obtain rfl : j = 0 := by omega
      exact (Bx.new.drew.cell 0).trans (by simp)
    have hnews := Lib.hid hnews
    have oc1 : ∀ u ∈ [Value.int .u8 (b.toNat : Int)], u.oneCell' = true := by intro u hu; simp only [List.mem_singleton] at hu; subst hu; rfl
    have hol2 := Lib.hid hol
    clear hol
    go_wp2_with fail
    go_region_law (refine step_app1 rfl (.tmp 142) (.tmp 149) 23 rfl L.B 5 (.int .u8 0) 1 1 und23 info5 rfl Nat.one_pos (.slice ado m.out.length capo) m.out.length (m.out.map fun b => .int .u8 (b.toNat : Int)) rfl A2.out wd.heap.size 1 [.int .u8 (b.toNat : Int)] rfl rfl hnews.out oc1 hol2.out (Nat.le_of_ble_eq_true rfl) A2.hi ?_; intro v' w' O' G'; obtain ⟨adn, capn, rfl, -⟩ := ownsRow_at O'; have X7 := A2.box.grown G' hnr.out; have hx7 := X7.cell; have hf7 := X7.frozen)
    all_goals
      have A7 := A2.outs K b G' O'
      go_wp2_with fail
      refine bodyPost_end (v := .tuple #[]) (by simp [results, Tryz.results55, go_sem]) rfl ?_
      rw [← hR.out]
      refine ⟨rfl, vi, .slice adn (m.out.length + 1) capn, ?_⟩
      rw [hb]
      exact A7
set_option maxHeartbeats 4000000 in
set_option maxRecDepth 100000 in
theorem step_last (w0 w : World) (L : Lay) (C : Cd) (m : Mach) (vi vo : Value) (K : LOk w0 L C) (h : MAt w0 w L C m vi vo) (hi : ¬ m.at_ < C.lines.length) :
    Calls Tryz.prog 55 #[.pointer (some ⟨L.mb, 0, none⟩)] w fun e w' => StpRet w0 L C e w' (X.step C m) := by
  have hR : X.step C m = halt m 5 0 := by unfold X.step; rw [if_pos (by omega)]
  rw [hR]
  obtain ⟨CB, hC⟩ := h.code K
  obtain ⟨-, vl, xs, r1, r2, d, vsp, X1, R1, -⟩ := hC
  obtain ⟨adl, capl, rfl, -⟩ := ownsRow_at R1
  have hcx := X1.cell
  have hx := h.box.cell
  have hi' : (C.lines.length : Int) ≤ m.at_ := by omega
  have HE := fun w h => Lib.hid (end_any w0 w L C m vi vo K h 5 0 (by omega))
  have hh := Lib.hid h
  clear hi
  go_enter Tryz.func55, Tryz.ntmps55
  go_wp2_with fail
  go_quiet (fail)
  go_wp2_with fail
  refine ((HE _ (hh.out.on (below_drewN (Below.refl _ _) _))).out).mono ?_
  rintro e w2 ⟨rfl, hM2, hK2⟩
  go_wp2_with fail
  refine bodyPost_ret (v := .tuple #[]) (by simp [results, Tryz.results55, go_sem]) rfl ?_
  exact ⟨rfl, _, _, hM2⟩
theorem DoRet.stp {w0 w w' : World} {L : Lay} {C : Cd} {vi vo : Value} {e : Ending} {m : Mach} (h : DoRet w0 w L C vi vo e w' m) : StpRet w0 L C e w' m := ⟨h.1, _, _, h.2.1⟩
/-- A step. -/
theorem step_any (w0 w : World) (L : Lay) (C : Cd) (m : Mach) (vi vo : Value) (K : LOk w0 L C) (h : MAt w0 w L C m vi vo) (hok : ∀ l ∈ C.lines, LineOk l) (hlen : ∀ l ∈ C.lines, l.word.length ≤ 8) (hol : m.out.length + 1 ≤ 4294967296) :
    Calls Tryz.prog 55 #[.pointer (some ⟨L.mb, 0, none⟩)] w fun e w' => StpRet w0 L C e w' (X.step C m) := by
  by_cases hlt : m.at_ < C.lines.length
  · have h0 := h.ok.at0
    obtain ⟨i, hat⟩ : ∃ i : Nat, m.at_ = i := ⟨m.at_.toNat, by omega⟩
    have hi : i < C.lines.length := by omega
    obtain ⟨l, hl⟩ : ∃ l, C.lines.getD i ⟨[], []⟩ = l := ⟨_, rfl⟩
    have hm : l ∈ C.lines := by rw [← hl, List.getD_eq_getElem?_getD, List.getElem?_eq_getElem hi]; simp
    have hR : X.step C m = (match l.ops with | [a, b] => X.two C { m with at_ := (i : Int) + 1 } l.word a b | [a] => X.one C { m with at_ := (i : Int) + 1 } l.word a | _ => X.none' C { m with at_ := (i : Int) + 1 } l.word) := by
      unfold X.step
      rw [if_neg (by omega), hat, Int.toNat_natCast, hl]
      rfl
    have ok : OpsOk l.word l.ops := hok l hm
    have hw8 := hlen l hm
    rw [hR]
    have key : l.ops.length ≠ 1 → l.ops.length ≠ 2 → Calls Tryz.prog 55 #[.pointer (some ⟨L.mb, 0, none⟩)] w fun e w' => StpRet w0 L C e w' (X.none' C { m with at_ := (i : Int) + 1 } l.word) := by
      intro n1 n2
      by_cases c0 : l.word = [114, 101, 116]
      · by_cases hz : (X.pop C { m with at_ := (i : Int) + 1 }).2 = 0 ∧ (X.pop C { m with at_ := (i : Int) + 1 }).1.kind = 0
        · exact step_ret0 w0 w L C m vi vo K h i hat hi l hl n1 n2 c0 hz
        · exact step_ret1 w0 w L C m vi vo K h i hat hi l hl n1 n2 c0 hz
      by_cases c1 : l.word = [99, 113, 116, 111]
      · exact step_cqto w0 w L C m vi vo K h i hat hi l hl n1 n2 c1
      by_cases c2 : l.word = [115, 121, 115, 105, 110]
      · obtain ⟨inp, he⟩ : ∃ x, m.input = x := ⟨_, rfl⟩
        cases inp with
        | nil => exact step_in0 w0 w L C m vi vo K h i hat hi l hl n1 n2 c2 he
        | cons b r => exact step_in1 w0 w L C m vi vo K h i hat hi l hl n1 n2 c2 b r he
      by_cases c3 : l.word = [115, 121, 115, 111, 117, 116]
      · exact step_sysout w0 w L C m vi vo K h i hat hi l hl n1 n2 c3 hol
      by_cases c4 : l.word = [115, 121, 115, 101, 120, 105, 116]
      · exact step_exit w0 w L C m vi vo K h i hat hi l hl n1 n2 c4
      by_cases c5 : l.word = [115, 121, 115, 111, 118, 101, 114]
      · exact step_over w0 w L C m vi vo K h i hat hi l hl n1 n2 c5
      exact step_other w0 w L C m vi vo K h i hat hi l hl n1 n2 c0 c1 c2 c3 c4 c5
    cases ho : l.ops with
    | nil => exact key (by rw [ho]; simp) (by rw [ho]; simp)
    | cons a t =>
      cases t with
      | nil =>
        rw [ho] at ok
        exact (step_ones w0 w L C m vi vo K h i hat hi l hl a ho ok (by omega)).mono fun e w' hd => DoRet.stp hd
      | cons b t =>
        cases t with
        | nil =>
          rw [ho] at ok
          exact (step_twos w0 w L C m vi vo K h i hat hi l hl a b ho ok).mono fun e w' hd => DoRet.stp hd
        | cons c t => exact key (by rw [ho]; simp) (by rw [ho]; simp)
  · exact step_last w0 w L C m vi vo K h hlt
end Go.Proofs.YtfkfdffhajokkaaGreatDoor
/- How package x86's machine runs; conditions: a machine that lies in memory, lines as they are read, at most 2^24 steps. -/
namespace Go.Proofs.YtfkfdffhajokkaaGreatDoor
open Go.RowKit X
set_option linter.unusedSimpArgs false
theorem runN_done (C : Cd) (k : Nat) (m : Mach) (h : m.kind ≠ 0) : X.runN C k m = lower m := by
  cases k with
  | zero => unfold X.runN; rw [if_pos h]
  | succ k => unfold X.runN; rw [if_pos h]
theorem runN_zero (C : Cd) (m : Mach) (h : m.kind = 0) : X.runN C 0 m = lower (halt (lower m) 3 0) := by unfold X.runN; rw [if_neg (by simp [h])]
theorem runN_succ (C : Cd) (k : Nat) (m : Mach) (h : m.kind = 0) : X.runN C (k + 1) m = X.runN C k (X.step C (lower m)) := by
  show (if m.kind ≠ 0 then lower m else X.runN C k (X.step C (lower m))) = _
  rw [if_neg (by simp [h])]
theorem MOk.lower {C : Cd} {m : Mach} (h : MOk C m) : MOk C (X.lower m) := by
  have h1 := h.least
  have h2 := h.regs 7 (by decide)
  refine ⟨h.regs, h.x, h.y, h.at0, h.at1, h.kind, h.code, ?_⟩
  show In64 (min m.least (m.regs 7))
  unfold In64 at *
  omega
set_option maxHeartbeats 4000000 in
set_option maxRecDepth 100000 in
theorem run_any (w0 w : World) (L : Lay) (C : Cd) (m : Mach) (vi vo : Value) (K : LOk w0 L C) (h : MAt w0 w L C m vi vo) (hok : ∀ l ∈ C.lines, LineOk l) (hlen : ∀ l ∈ C.lines, l.word.length ≤ 8) (fuel : Nat) (hf : fuel ≤ 16777216) (hol : m.out.length ≤ 1) :
    Calls Tryz.prog 32 #[.pointer (some ⟨L.mb, 0, none⟩), .int .i64 fuel] w fun e w' => StpRet w0 L C e w' (X.runN C fuel m) := by
  obtain ⟨R, hR⟩ : ∃ R, X.runN C fuel m = R := ⟨_, rfl⟩
  rw [hR]
  have HS := fun w m vi vo h ho => Lib.hid (step_any w0 w L C m vi vo K h hok hlen ho)
  have HE := fun w m vi vo h => Lib.hid (end_any w0 w L C m vi vo K h 3 0 (by omega))
  have hR := Lib.hid hR
  have hh := Lib.hid h
  clear h hok hlen
  go_enter Tryz.func32, Tryz.ntmps32
  go_wp2_with fail
  go_loopg [4] (fuel + 1) (fun q v wr => ∃ (j : Nat) (m1 : Mach) (vi1 vo1 : Value), v = .int .i64 j ∧ j ≤ fuel ∧ q + j = fuel + 1 ∧ MAt w0 wr L C m1 vi1 vo1 ∧ Hid (X.runN C (fuel - j) m1 = R) ∧ m1.out.length ≤ 1 + j)
  case atStart => exact ⟨0, m, vi, vo, rfl, by omega, rfl, hh.out, hR, hol⟩
  case round =>
    obtain ⟨j, m1, vi1, vo1, rfl, hj, hq, A, hg, hl1⟩ := hrel
    clear hR hh hol
    have hx := A.box.cell
    have hfz := A.box.frozen
    by_cases h0 : m1.kind = 0
    · have h0' : (m1.kind == 0) = true := beq_iff_eq.2 h0
      have B := A.put (m' := X.lower m1) K 27 (.int .i64 (min m1.least (m1.regs 7))) rfl A.inp rfl rfl rfl rfl A.ok.lower
      have hB := Lib.hid (B.on (Below.drew (Below.refl _ _)))
      have hlo : (X.lower m1).out.length ≤ 1 + j := hl1
      by_cases hjf : j = fuel
      · subst hjf
        have hje : ((j : Int) == (j : Int)) = true := beq_iff_eq.2 rfl
        have hR2 := Lib.hid (show X.lower (halt (X.lower m1) 3 0) = R by rw [← hg.out, Nat.sub_self, runN_zero C m1 h0])
        clear h0 hg B hlo
        go_wp2_with fail
        go_region
        go_wp2_with fail
        refine ((HE _ _ _ _ hB.out).out).mono ?_
        rintro e w2 ⟨rfl, hM2, hK2⟩
        clear hx hfz h0'
        have hq1 := (hM2).box.cell
        have hq2 := (hM2).box.frozen
        have Z := (hM2).put (m' := X.lower (halt (X.lower m1) 3 0)) K 27 (.int .i64 (min ((halt (X.lower m1) 3 0)).least (((halt (X.lower m1) 3 0)).regs 7))) rfl (hM2).inp rfl rfl rfl rfl (hM2).ok.lower
        have Z := Lib.hid Z
        go_wp2_with fail
        go_region
        go_wp2_with fail
        refine bodyPost_end (v := .tuple #[]) (by simp [results, Tryz.results32, go_sem]) rfl ?_
        rw [← hR2.out]
        exact ⟨rfl, _, _, Z.out.on (Below.drew (Below.refl _ _))⟩
      · have hje : ((j : Int) == (fuel : Int)) = false := beq_f (by omega)
        have hR2 := Lib.hid (show X.runN C (fuel - (j + 1)) (X.step C (X.lower m1)) = R by rw [← hg.out, ← runN_succ C _ m1 h0, show fuel - (j + 1) + 1 = fuel - j by omega])
        have hso := step_out C (X.lower m1)
        have HS2 := HS _ _ _ _ hB.out (by omega)
        clear h0 hg B
        go_wp2_with fail
        go_region
        go_wp2_with fail
        refine (HS2.out).mono ?_
        rintro e w2 ⟨rfl, vi2, vo2, hM2⟩
        go_wp2_with fail
        go_roundg (gk - 1)
        case measure => omega
        case rel => exact ⟨j + 1, _, vi2, vo2, rfl, by omega, by omega, hM2, hR2, by omega⟩
    · have h0' : (m1.kind == 0) = false := beq_f h0
      have hR2 := Lib.hid (show X.lower m1 = R by rw [← hg.out, runN_done C _ m1 h0])
      clear h0 hg
      have hq1 := (A).box.cell
      have hq2 := (A).box.frozen
      have Z := (A).put (m' := X.lower m1) K 27 (.int .i64 (min (m1).least ((m1).regs 7))) rfl (A).inp rfl rfl rfl rfl (A).ok.lower
      have Z := Lib.hid Z
      go_wp2_with fail
      go_region
      go_wp2_with fail
      refine bodyPost_end (v := .tuple #[]) (by simp [results, Tryz.results32, go_sem]) rfl ?_
      rw [← hR2.out]
      exact ⟨rfl, _, _, Z.out.on (Below.drew (Below.refl _ _))⟩
end Go.Proofs.YtfkfdffhajokkaaGreatDoor
