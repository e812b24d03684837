/- How package x86's machine divides; conditions: a machine that lies in memory. -/
import Derived.Test.YtfkfdffhajokkaaGreatDoorA04
import Derived.Test.YtfkfdffhajokkaaGreatDoorA23
namespace Go.Proofs.YtfkfdffhajokkaaGreatDoor
open Go.RowKit X
set_option linter.unusedSimpArgs false
theorem tdiv64 {a d : Int} (ha : In64 a) (hd64 : In64 d) (h0 : ¬ d = 0) (h1 : ¬ (d = -1 ∧ a = -9223372036854775808)) : In64 (a.tdiv d) ∧ In64 (a.tmod d) := by
  unfold In64 at ha hd64 ⊢
  have e : (a.tdiv d).natAbs = a.natAbs / d.natAbs := Int.natAbs_tdiv a d
  have e2 : (a.tmod d).natAbs = a.natAbs % d.natAbs := Int.natAbs_tmod a d
  have hm : (a.tmod d).natAbs < d.natAbs := by rw [e2]; exact Nat.mod_lt _ (by omega)
  have hm2 : (a.tmod d).natAbs ≤ a.natAbs := by rw [e2]; exact Nat.mod_le _ _
  generalize a.tmod d = r at *
  refine ⟨?_, by omega⟩
  by_cases hd1 : d.natAbs = 1
  · have : d = 1 ∨ d = -1 := by omega
    rcases this with rfl | rfl
    · rw [Int.tdiv_one]; exact ha
    · rw [Int.tdiv_neg, Int.tdiv_one]; omega
  · have q2 : a.natAbs / d.natAbs ≤ a.natAbs / 2 := Nat.div_le_div_left (by omega) (by omega)
    rw [← e] at q2
    generalize a.tdiv d = q at *
    omega
set_option maxHeartbeats 2000000 in
set_option maxRecDepth 100000 in
theorem divide_any (w0 w : World) (L : Lay) (C : Cd) (m : Mach) (vi vo : Value) (K : LOk w0 L C) (h : MAt w0 w L C m vi vo) (s : Bool) (d : Int) (hd : In64 d) :
    Calls Tryz.prog 122 #[.pointer (some ⟨L.mb, 0, none⟩), .bool s, .int .i64 d] w fun e w' => DoRet w0 w L C vi vo e w' (X.divide m s d) := by
  obtain ⟨R, hR⟩ : ∃ R, X.divide m s d = R := ⟨_, rfl⟩
  rw [hR]
  unfold X.divide at hR
  have ha := h.ok.regs 0 (by decide)
  have hx := h.box.cell
  have hh := Lib.hid h
  cases s with
  | true =>
    simp only [if_true] at hR
    by_cases hb : d = 0 ∨ (d = -1 ∧ m.regs 0 = -9223372036854775808)
    · have H4 := fun w => Lib.hid (plain_none 4 (by omega) (m.regs 0) d ha hd (by omega) w)
      have H5 := fun w => Lib.hid (plain_none 5 (by omega) (m.regs 0) d ha hd (by omega) w)
      have hR := Lib.hid (show halt m 5 0 = R by rw [← hR, if_pos (by omega)])
      clear hb
      go_enter Tryz.func122, Tryz.ntmps122
      go_wp2_with fail
      refine ((H4 _).out).mono ?_
      rintro e w1 ⟨rfl, hb1⟩
      have hx1 := (hh.out.on hb1).box.cell
      go_wp2_with fail
      refine ((H5 _).out).mono ?_
      rintro e w2 ⟨rfl, hb2⟩
      have hM2 := hh.out.on (bstep hb1 hb2)
      have hx2 := hM2.box.cell
      clear hx hx1
      have HE := Lib.hid (end_any w0 w2 L C m vi vo K hM2 5 0 (by omega))
      have hK2 := Lib.hid (Kp.of_below (S := L.S) (bstep hb1 hb2))
      go_wp2_with fail
      refine (HE.out).mono ?_
      rintro e w3 ⟨rfl, hM3, hK3⟩
      go_wp2_with fail
      refine bodyPost_ret (v := .tuple #[]) (by simp [results, Tryz.results122, go_sem]) rfl ?_
      rw [← hR.out]
      exact ⟨rfl, hM3, hK2.out.trans hK3⟩
    · have n0 : ¬ d = 0 := by omega
      have n1 : ¬ (d = -1 ∧ m.regs 0 = -9223372036854775808) := fun h => hb (.inr h)
      have H4 := fun w => Lib.hid (plain_quo 4 (by omega) (m.regs 0) d ha hd n0 n1 w)
      have H5 := fun w => Lib.hid (plain_quo 5 (by omega) (m.regs 0) d ha hd n0 n1 w)
      rw [if_pos rfl] at H4
      rw [if_neg (by decide)] at H5
      obtain ⟨q1, q2⟩ := tdiv64 ha hd n0 n1
      obtain ⟨q, hq⟩ : ∃ q, (m.regs 0).tdiv d = q := ⟨_, rfl⟩
      obtain ⟨r, hr⟩ : ∃ q, (m.regs 0).tmod d = q := ⟨_, rfl⟩
      rw [hq] at q1 H4 hR
      rw [hr] at q2 H5 hR
      by_cases h3 : m.regs 3 = m.regs 0 / 2 ^ 63
      · have t3 : (m.regs 3 == m.regs 0 / 9223372036854775808) = true := beq_iff_eq.2 h3
        have t3' : (m.regs 3 != m.regs 0 / 9223372036854775808) = false := by unfold bne; rw [t3]; rfl
        have hR := Lib.hid (show setReg (setReg m 0 q) 3 r = R by rw [← hR, if_neg (by omega)])
        clear hb n0 n1 hq hr h3
        go_enter Tryz.func122, Tryz.ntmps122
        go_wp2_with fail
        refine ((H4 _).out).mono ?_
        rintro e w1 ⟨rfl, hb1⟩
        have hx1 := (hh.out.on hb1).box.cell
        go_wp2_with fail
        refine ((H5 _).out).mono ?_
        rintro e w2 ⟨rfl, hb2⟩
        have hM2 := hh.out.on (bstep hb1 hb2)
        have hx2 := hM2.box.cell
        clear hx hx1
        have hf2 := hM2.box.frozen
        have A1 := hM2.put (m' := setReg m 0 q) K 1 (.int .i64 q) rfl hM2.inp rfl rfl rfl rfl (hM2.ok.setReg 0 q1)
        have A2 := A1.put (m' := setReg (setReg m 0 q) 3 r) K 4 (.int .i64 r) rfl hM2.inp rfl rfl rfl rfl (A1.ok.setReg 3 q2)
        have A2 := Lib.hid A2
        have hK2 := Lib.hid (Kp.of_below (S := L.S) (bstep hb1 hb2))
        clear A1
        go_wp2_with fail
        go_region
        go_wp2_with fail
        refine bodyPost_end (v := .tuple #[]) (by simp [results, Tryz.results122, go_sem]) rfl ?_
        rw [← hR.out]
        exact ⟨rfl, A2.out.on (Below.drew (Below.refl _ _)), ((hK2.out.setCell _ (.inl L.mb_S)).setCell _ (.inl L.mb_S)).drew⟩
      · have t3 : (m.regs 3 == m.regs 0 / 9223372036854775808) = false := beq_f h3
        have t3' : (m.regs 3 != m.regs 0 / 9223372036854775808) = true := by unfold bne; rw [t3]; rfl
        have hR := Lib.hid (show halt m 5 0 = R by rw [← hR, if_pos (by omega)])
        clear hb n0 n1 hq hr h3
        go_enter Tryz.func122, Tryz.ntmps122
        go_wp2_with fail
        refine ((H4 _).out).mono ?_
        rintro e w1 ⟨rfl, hb1⟩
        have hx1 := (hh.out.on hb1).box.cell
        go_wp2_with fail
        refine ((H5 _).out).mono ?_
        rintro e w2 ⟨rfl, hb2⟩
        have hM2 := hh.out.on (bstep hb1 hb2)
        have hx2 := hM2.box.cell
        clear hx hx1
        have HE := Lib.hid (end_any w0 w2 L C m vi vo K hM2 5 0 (by omega))
        have hK2 := Lib.hid (Kp.of_below (S := L.S) (bstep hb1 hb2))
        go_wp2_with fail
        refine (HE.out).mono ?_
        rintro e w3 ⟨rfl, hM3, hK3⟩
        go_wp2_with fail
        refine bodyPost_ret (v := .tuple #[]) (by simp [results, Tryz.results122, go_sem]) rfl ?_
        rw [← hR.out]
        exact ⟨rfl, hM3, hK2.out.trans hK3⟩
  | false =>
    simp only [Bool.false_eq_true, if_false] at hR
    by_cases n0 : d = 0
    · have H4 := fun w => Lib.hid (plain_none 6 (by omega) (m.regs 0) d ha hd (by omega) w)
      have H5 := fun w => Lib.hid (plain_none 7 (by omega) (m.regs 0) d ha hd (by omega) w)
      have hR := Lib.hid (show halt m 5 0 = R by rw [← hR, if_pos (by omega)])
      clear n0
      go_enter Tryz.func122, Tryz.ntmps122
      go_wp2_with fail
      refine ((H4 _).out).mono ?_
      rintro e w1 ⟨rfl, hb1⟩
      have hx1 := (hh.out.on hb1).box.cell
      go_wp2_with fail
      refine ((H5 _).out).mono ?_
      rintro e w2 ⟨rfl, hb2⟩
      have hM2 := hh.out.on (bstep hb1 hb2)
      have hx2 := hM2.box.cell
      clear hx hx1
      have HE := Lib.hid (end_any w0 w2 L C m vi vo K hM2 5 0 (by omega))
      have hK2 := Lib.hid (Kp.of_below (S := L.S) (bstep hb1 hb2))
      go_wp2_with fail
      refine (HE.out).mono ?_
      rintro e w3 ⟨rfl, hM3, hK3⟩
      go_wp2_with fail
      refine bodyPost_ret (v := .tuple #[]) (by simp [results, Tryz.results122, go_sem]) rfl ?_
      rw [← hR.out]
      exact ⟨rfl, hM3, hK2.out.trans hK3⟩
    · have H4 := fun w => Lib.hid (plain_uquo 6 (by omega) (m.regs 0) d ha hd n0 w)
      have H5 := fun w => Lib.hid (plain_uquo 7 (by omega) (m.regs 0) d ha hd n0 w)
      rw [if_pos rfl] at H4
      rw [if_neg (by decide)] at H5
      have q1 : In64 (wrap64 (u64 (m.regs 0) / u64 d)) := In64.wrap _
      have q2 : In64 (wrap64 (u64 (m.regs 0) % u64 d)) := In64.wrap _
      obtain ⟨q, hq⟩ : ∃ q, wrap64 (u64 (m.regs 0) / u64 d) = q := ⟨_, rfl⟩
      obtain ⟨r, hr⟩ : ∃ q, wrap64 (u64 (m.regs 0) % u64 d) = q := ⟨_, rfl⟩
      rw [hq] at q1 H4 hR
      rw [hr] at q2 H5 hR
      by_cases h3 : m.regs 3 = 0
      · have t3 : (m.regs 3 == 0) = true := beq_iff_eq.2 h3
        have t3' : (m.regs 3 != 0) = false := by unfold bne; rw [t3]; rfl
        have hR := Lib.hid (show setReg (setReg m 0 q) 3 r = R by rw [← hR, if_neg (by omega)])
        clear n0 hq hr h3
        go_enter Tryz.func122, Tryz.ntmps122
        go_wp2_with fail
        refine ((H4 _).out).mono ?_
        rintro e w1 ⟨rfl, hb1⟩
        have hx1 := (hh.out.on hb1).box.cell
        go_wp2_with fail
        refine ((H5 _).out).mono ?_
        rintro e w2 ⟨rfl, hb2⟩
        have hM2 := hh.out.on (bstep hb1 hb2)
        have hx2 := hM2.box.cell
        clear hx hx1
        have hf2 := hM2.box.frozen
        have A1 := hM2.put (m' := setReg m 0 q) K 1 (.int .i64 q) rfl hM2.inp rfl rfl rfl rfl (hM2.ok.setReg 0 q1)
        have A2 := A1.put (m' := setReg (setReg m 0 q) 3 r) K 4 (.int .i64 r) rfl hM2.inp rfl rfl rfl rfl (A1.ok.setReg 3 q2)
        have A2 := Lib.hid A2
        have hK2 := Lib.hid (Kp.of_below (S := L.S) (bstep hb1 hb2))
        clear A1
        go_wp2_with fail
        go_region
        go_wp2_with fail
        refine bodyPost_end (v := .tuple #[]) (by simp [results, Tryz.results122, go_sem]) rfl ?_
        rw [← hR.out]
        exact ⟨rfl, A2.out.on (Below.drew (Below.refl _ _)), ((hK2.out.setCell _ (.inl L.mb_S)).setCell _ (.inl L.mb_S)).drew⟩
      · have t3 : (m.regs 3 == 0) = false := beq_f h3
        have t3' : (m.regs 3 != 0) = true := by unfold bne; rw [t3]; rfl
        have hR := Lib.hid (show halt m 5 0 = R by rw [← hR, if_pos (by omega)])
        clear n0 hq hr h3
        go_enter Tryz.func122, Tryz.ntmps122
        go_wp2_with fail
        refine ((H4 _).out).mono ?_
        rintro e w1 ⟨rfl, hb1⟩
        have hx1 := (hh.out.on hb1).box.cell
        go_wp2_with fail
        refine ((H5 _).out).mono ?_
        rintro e w2 ⟨rfl, hb2⟩
        have hM2 := hh.out.on (bstep hb1 hb2)
        have hx2 := hM2.box.cell
        clear hx hx1
        have HE := Lib.hid (end_any w0 w2 L C m vi vo K hM2 5 0 (by omega))
        have hK2 := Lib.hid (Kp.of_below (S := L.S) (bstep hb1 hb2))
        go_wp2_with fail
        refine (HE.out).mono ?_
        rintro e w3 ⟨rfl, hM3, hK3⟩
        go_wp2_with fail
        refine bodyPost_ret (v := .tuple #[]) (by simp [results, Tryz.results122, go_sem]) rfl ?_
        rw [← hR.out]
        exact ⟨rfl, hM3, hK2.out.trans hK3⟩
end Go.Proofs.YtfkfdffhajokkaaGreatDoor
/- Which runs package x86 begins; conditions: none. -/
namespace Go.Proofs.YtfkfdffhajokkaaGreatDoor
open Go.RowKit X
set_option linter.unusedSimpArgs false
set_option maxHeartbeats 2000000 in
set_option maxRecDepth 100000 in
theorem mayRun_any (ad : Option Addr) (n cap : Nat) (fuel st : Int) (w : World) :
    Calls Tryz.prog 30 #[.slice ad n cap, .int .i64 fuel, .int .i64 st] w fun e w' => e = .returned (.bool (X.may n fuel st)) ∧ Below w.heap.size w w' := by
  obtain ⟨R, hR⟩ : ∃ R, X.may n fuel st = R := ⟨_, rfl⟩
  rw [hR]
  unfold X.may at hR
  have key : ∀ b1 b2 b3 b4 b5 b6 : Bool, decide (0 ≤ fuel) = b1 → decide (fuel ≤ 16777216) = b2 → decide ((n : Int) ≤ 4096) = b3 → (st.tmod 16 == 0) = b4 → decide (16 ≤ st) = b5 → decide (st ≤ 1048576) = b6 → (b1 && b2 && b3 && b4 && b5 && b6) = R →
      Calls Tryz.prog 30 #[.slice ad n cap, .int .i64 fuel, .int .i64 st] w fun e w' => e = .returned (.bool R) ∧ Below w.heap.size w w' := by
    intro b1 b2 b3 b4 b5 b6 t1 t2 t3 t4 t5 t6 hR
    cases b1 with
    | false =>
      have hR := Lib.hid hR
      go_enter Tryz.func30, Tryz.ntmps30
      go_wp2_with fail
      go_ret
      exact ⟨by rw [← hR.out]; rfl, Below.refl _ _⟩
    | true =>
      cases b2 with
      | false =>
        have hR := Lib.hid hR
        go_enter Tryz.func30, Tryz.ntmps30
        go_wp2_with fail
        go_ret
        exact ⟨by rw [← hR.out]; rfl, Below.refl _ _⟩
      | true =>
        cases b3 with
        | false =>
          have hR := Lib.hid hR
          go_enter Tryz.func30, Tryz.ntmps30
          go_wp2_with fail
          go_ret
          exact ⟨by rw [← hR.out]; rfl, Below.refl _ _⟩
        | true =>
          cases b4 with
          | false =>
            have hR := Lib.hid hR
            go_enter Tryz.func30, Tryz.ntmps30
            go_wp2_with fail
            go_ret
            exact ⟨by rw [← hR.out]; rfl, Below.refl _ _⟩
          | true =>
            cases b5 with
            | false =>
              have hR := Lib.hid hR
              go_enter Tryz.func30, Tryz.ntmps30
              go_wp2_with fail
              go_ret
              exact ⟨by rw [← hR.out]; rfl, Below.refl _ _⟩
            | true =>
              cases b6 with
              | false =>
                have hR := Lib.hid hR
                go_enter Tryz.func30, Tryz.ntmps30
                go_wp2_with fail
                go_ret
                exact ⟨by rw [← hR.out]; rfl, Below.refl _ _⟩
              | true =>
                have hR := Lib.hid hR
                go_enter Tryz.func30, Tryz.ntmps30
                go_wp2_with fail
                go_ret
                exact ⟨by rw [← hR.out]; rfl, Below.refl _ _⟩
  refine key _ _ _ _ _ _ rfl rfl rfl rfl rfl rfl ?_
  rw [← hR]
  have e3 : decide ((n : Int) ≤ 4096) = decide (n ≤ 4096) := decide_eq_decide.2 (by omega)
  rw [e3]
  congr
end Go.Proofs.YtfkfdffhajokkaaGreatDoor
/- What package x86's Print and Len answer; conditions: a code that lies in memory. -/
namespace Go.Proofs.YtfkfdffhajokkaaGreatDoor
open Go.RowKit X
set_option linter.unusedSimpArgs false
set_option maxRecDepth 100000 in
theorem Print_any (w : World) (B p : Nat) (C : Cd) (h : CodeAt w B p C) :
    Calls Tryz.prog 17 #[.pointer (some ⟨p, 0, none⟩)] w fun e w' => e = .returned (.string (St C.text)) ∧ Below w.heap.size w w' := by
  obtain ⟨-, vl, xs, r1, r2, d, vs, X1, -⟩ := h
  have hx := X1.cell
  go_enter Tryz.func17, Tryz.ntmps17
  go_wp2_with fail
  go_ret
  exact ⟨rfl, by (repeat' (first | with_reducible assumption | with_reducible exact Below.refl _ _ | (with_reducible refine below_drewN ?_ _) | (with_reducible refine Below.drew ?_) | (with_reducible refine balloc ?_ _) | (with_reducible refine Below.setCell ?_ (by first | exact Nat.le_refl _ | (simp; done) | omega | (simp; omega)) _) | (with_reducible refine bstep ?_ (by with_reducible assumption))))⟩
set_option maxRecDepth 100000 in
theorem Len_any (w : World) (B p : Nat) (C : Cd) (h : CodeAt w B p C) :
    Calls Tryz.prog 18 #[.pointer (some ⟨p, 0, none⟩)] w fun e w' => e = .returned (.int .i64 C.lines.length) ∧ Below w.heap.size w w' := by
  obtain ⟨-, vl, xs, r1, r2, d, vs, X1, R1, -⟩ := h
  obtain ⟨ad, cap, rfl, -⟩ := ownsRow_at R1
  have hx := X1.cell
  go_enter Tryz.func18, Tryz.ntmps18
  go_wp2_with fail
  go_ret
  exact ⟨rfl, by (repeat' (first | with_reducible assumption | with_reducible exact Below.refl _ _ | (with_reducible refine below_drewN ?_ _) | (with_reducible refine Below.drew ?_) | (with_reducible refine balloc ?_ _) | (with_reducible refine Below.setCell ?_ (by first | exact Nat.le_refl _ | (simp; done) | omega | (simp; omega)) _) | (with_reducible refine bstep ?_ (by with_reducible assumption))))⟩
end Go.Proofs.YtfkfdffhajokkaaGreatDoor
