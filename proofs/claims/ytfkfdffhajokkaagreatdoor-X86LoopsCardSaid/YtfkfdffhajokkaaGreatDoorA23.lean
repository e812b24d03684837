/- Which conditions hold, to package x86's machine; conditions: a machine that lies in memory. -/
import Derived.Test.YtfkfdffhajokkaaGreatDoorA22
namespace Go.Proofs.YtfkfdffhajokkaaGreatDoor
open Go.RowKit X
set_option linter.unusedSimpArgs false
def HolRet (w0 w : World) (L : Lay) (C : Cd) (vi vo : Value) (e : Ending) (w' : World) (R : Mach × Bool) : Prop :=
  e = .returned (.bool R.2) ∧ MAt w0 w' L C R.1 vi vo ∧ Kp L.S w w'
theorem neq_beq {c : Str} {l : Str} (h : ¬ c = l) : (c == l) = false := by rw [Bool.eq_false_iff, ne_eq, beq_iff_eq]; exact h
set_option maxHeartbeats 2000000 in
set_option maxRecDepth 100000 in
theorem holds_any (w0 w : World) (L : Lay) (C : Cd) (m : Mach) (vi vo : Value) (K : LOk w0 L C) (h : MAt w0 w L C m vi vo) (c : Str) :
    Calls Tryz.prog 123 #[.pointer (some ⟨L.mb, 0, none⟩), .string (St c)] w fun e w' => HolRet w0 w L C vi vo e w' (X.holds m c) := by
  obtain ⟨R, hR⟩ : ∃ R, X.holds m c = R := ⟨_, rfl⟩
  rw [hR]
  unfold X.holds at hR
  have hx := h.box.cell
  cases hc : m.compared with
  | false =>
    rw [hc] at hR
    have hR := Lib.hid (show (halt m 5 0, false) = R from hR)
    have HE := Lib.hid (end_any w0 w L C m vi vo K h 5 0 (by omega))
    go_enter Tryz.func123, Tryz.ntmps123
    go_wp2_with fail
    refine (HE.out).mono ?_
    rintro e w2 ⟨rfl, hM2, hK2⟩
    go_wp2_with fail
    go_ret
    rw [← hR.out]
    exact ⟨rfl, hM2, hK2⟩
  | true =>
    rw [hc] at hR
    simp only [if_true] at hR
    unfold X.cond at hR
    have hh := Lib.hid h
    clear h K
    by_cases c1 : c = [101]
    · have t1 : (c == [101]) = true := beq_iff_eq.2 c1
      rw [if_pos c1] at hR
      have hn := c1
      clear c1
      have hR := Lib.hid hR
      clear hn
      go_enter Tryz.func123, Tryz.ntmps123
      go_wp2_with fail
      go_quiet (fail)
      go_wp2_with fail
      go_quiet (fail)
      go_wp2_with fail
      go_ret
      rw [← hR.out]
      exact ⟨rfl, hh.out.on (by (repeat' (first | with_reducible assumption | with_reducible exact Below.refl _ _ | (with_reducible refine below_drewN ?_ _) | (with_reducible refine Below.drew ?_) | (with_reducible refine balloc ?_ _) | (with_reducible refine Below.setCell ?_ (by first | exact Nat.le_refl _ | (simp; done) | omega | (simp; omega)) _) | (with_reducible refine bstep ?_ (by with_reducible assumption))))), Kp.of_below (by (repeat' (first | with_reducible assumption | with_reducible exact Below.refl _ _ | (with_reducible refine below_drewN ?_ _) | (with_reducible refine Below.drew ?_) | (with_reducible refine balloc ?_ _) | (with_reducible refine Below.setCell ?_ (by first | exact Nat.le_refl _ | (simp; done) | omega | (simp; omega)) _) | (with_reducible refine bstep ?_ (by with_reducible assumption)))))⟩
    · have t1 := neq_beq c1
      rw [if_neg c1] at hR
      clear c1
      by_cases c1 : c = [110, 101]
      · have t2 : (c == [110, 101]) = true := beq_iff_eq.2 c1
        rw [if_pos c1] at hR
        have hn := c1
        clear c1
        have hR := Lib.hid hR
        clear hn
        go_enter Tryz.func123, Tryz.ntmps123
        go_wp2_with fail
        go_quiet (fail)
        go_wp2_with fail
        go_quiet (fail)
        go_wp2_with fail
        go_ret
        rw [← hR.out]
        exact ⟨rfl, hh.out.on (by (repeat' (first | with_reducible assumption | with_reducible exact Below.refl _ _ | (with_reducible refine below_drewN ?_ _) | (with_reducible refine Below.drew ?_) | (with_reducible refine balloc ?_ _) | (with_reducible refine Below.setCell ?_ (by first | exact Nat.le_refl _ | (simp; done) | omega | (simp; omega)) _) | (with_reducible refine bstep ?_ (by with_reducible assumption))))), Kp.of_below (by (repeat' (first | with_reducible assumption | with_reducible exact Below.refl _ _ | (with_reducible refine below_drewN ?_ _) | (with_reducible refine Below.drew ?_) | (with_reducible refine balloc ?_ _) | (with_reducible refine Below.setCell ?_ (by first | exact Nat.le_refl _ | (simp; done) | omega | (simp; omega)) _) | (with_reducible refine bstep ?_ (by with_reducible assumption)))))⟩
      · have t2 := neq_beq c1
        rw [if_neg c1] at hR
        clear c1
        by_cases c1 : c = [108]
        · have t3 : (c == [108]) = true := beq_iff_eq.2 c1
          rw [if_pos c1] at hR
          have hn := c1
          clear c1
          have hR := Lib.hid hR
          clear hn
          go_enter Tryz.func123, Tryz.ntmps123
          go_wp2_with fail
          go_quiet (fail)
          go_wp2_with fail
          go_quiet (fail)
          go_wp2_with fail
          go_ret
          rw [← hR.out]
          exact ⟨rfl, hh.out.on (by (repeat' (first | with_reducible assumption | with_reducible exact Below.refl _ _ | (with_reducible refine below_drewN ?_ _) | (with_reducible refine Below.drew ?_) | (with_reducible refine balloc ?_ _) | (with_reducible refine Below.setCell ?_ (by first | exact Nat.le_refl _ | (simp; done) | omega | (simp; omega)) _) | (with_reducible refine bstep ?_ (by with_reducible assumption))))), Kp.of_below (by (repeat' (first | with_reducible assumption | with_reducible exact Below.refl _ _ | (with_reducible refine below_drewN ?_ _) | (with_reducible refine Below.drew ?_) | (with_reducible refine balloc ?_ _) | (with_reducible refine Below.setCell ?_ (by first | exact Nat.le_refl _ | (simp; done) | omega | (simp; omega)) _) | (with_reducible refine bstep ?_ (by with_reducible assumption)))))⟩
        · have t3 := neq_beq c1
          rw [if_neg c1] at hR
          clear c1
          by_cases c1 : c = [108, 101]
          · have t4 : (c == [108, 101]) = true := beq_iff_eq.2 c1
            rw [if_pos c1] at hR
            have hn := c1
            clear c1
            have hR := Lib.hid hR
            clear hn
            go_enter Tryz.func123, Tryz.ntmps123
            go_wp2_with fail
            go_quiet (fail)
            go_wp2_with fail
            go_quiet (fail)
            go_wp2_with fail
            go_ret
            rw [← hR.out]
            exact ⟨rfl, hh.out.on (by (repeat' (first | with_reducible assumption | with_reducible exact Below.refl _ _ | (with_reducible refine below_drewN ?_ _) | (with_reducible refine Below.drew ?_) | (with_reducible refine balloc ?_ _) | (with_reducible refine Below.setCell ?_ (by first | exact Nat.le_refl _ | (simp; done) | omega | (simp; omega)) _) | (with_reducible refine bstep ?_ (by with_reducible assumption))))), Kp.of_below (by (repeat' (first | with_reducible assumption | with_reducible exact Below.refl _ _ | (with_reducible refine below_drewN ?_ _) | (with_reducible refine Below.drew ?_) | (with_reducible refine balloc ?_ _) | (with_reducible refine Below.setCell ?_ (by first | exact Nat.le_refl _ | (simp; done) | omega | (simp; omega)) _) | (with_reducible refine bstep ?_ (by with_reducible assumption)))))⟩
          · have t4 := neq_beq c1
            rw [if_neg c1] at hR
            clear c1
            by_cases c1 : c = [103]
            · have t5 : (c == [103]) = true := beq_iff_eq.2 c1
              rw [if_pos c1] at hR
              have hn := c1
              clear c1
              have hR := Lib.hid hR
              clear hn
              go_enter Tryz.func123, Tryz.ntmps123
              go_wp2_with fail
              go_quiet (fail)
              go_wp2_with fail
              go_quiet (fail)
              go_wp2_with fail
              go_ret
              rw [← hR.out]
              exact ⟨rfl, hh.out.on (by (repeat' (first | with_reducible assumption | with_reducible exact Below.refl _ _ | (with_reducible refine below_drewN ?_ _) | (with_reducible refine Below.drew ?_) | (with_reducible refine balloc ?_ _) | (with_reducible refine Below.setCell ?_ (by first | exact Nat.le_refl _ | (simp; done) | omega | (simp; omega)) _) | (with_reducible refine bstep ?_ (by with_reducible assumption))))), Kp.of_below (by (repeat' (first | with_reducible assumption | with_reducible exact Below.refl _ _ | (with_reducible refine below_drewN ?_ _) | (with_reducible refine Below.drew ?_) | (with_reducible refine balloc ?_ _) | (with_reducible refine Below.setCell ?_ (by first | exact Nat.le_refl _ | (simp; done) | omega | (simp; omega)) _) | (with_reducible refine bstep ?_ (by with_reducible assumption)))))⟩
            · have t5 := neq_beq c1
              rw [if_neg c1] at hR
              clear c1
              by_cases c1 : c = [103, 101]
              · have t6 : (c == [103, 101]) = true := beq_iff_eq.2 c1
                rw [if_pos c1] at hR
                have hn := c1
                clear c1
                have hR := Lib.hid hR
                clear hn
                go_enter Tryz.func123, Tryz.ntmps123
                go_wp2_with fail
                go_quiet (fail)
                go_wp2_with fail
                go_quiet (fail)
                go_wp2_with fail
                go_ret
                rw [← hR.out]
                exact ⟨rfl, hh.out.on (by (repeat' (first | with_reducible assumption | with_reducible exact Below.refl _ _ | (with_reducible refine below_drewN ?_ _) | (with_reducible refine Below.drew ?_) | (with_reducible refine balloc ?_ _) | (with_reducible refine Below.setCell ?_ (by first | exact Nat.le_refl _ | (simp; done) | omega | (simp; omega)) _) | (with_reducible refine bstep ?_ (by with_reducible assumption))))), Kp.of_below (by (repeat' (first | with_reducible assumption | with_reducible exact Below.refl _ _ | (with_reducible refine below_drewN ?_ _) | (with_reducible refine Below.drew ?_) | (with_reducible refine balloc ?_ _) | (with_reducible refine Below.setCell ?_ (by first | exact Nat.le_refl _ | (simp; done) | omega | (simp; omega)) _) | (with_reducible refine bstep ?_ (by with_reducible assumption)))))⟩
              · have t6 := neq_beq c1
                rw [if_neg c1] at hR
                clear c1
                by_cases c1 : c = [98]
                · have t7 : (c == [98]) = true := beq_iff_eq.2 c1
                  rw [if_pos c1] at hR
                  clear c1
                  have hR := Lib.hid hR
                  go_enter Tryz.func123, Tryz.ntmps123
                  go_wp2_with fail
                  go_quiet (fail)
                  go_wp2_with fail
                  go_ret
                  rw [← hR.out]
                  exact ⟨rfl, hh.out.on (by (repeat' (first | with_reducible assumption | with_reducible exact Below.refl _ _ | (with_reducible refine below_drewN ?_ _) | (with_reducible refine Below.drew ?_) | (with_reducible refine balloc ?_ _) | (with_reducible refine Below.setCell ?_ (by first | exact Nat.le_refl _ | (simp; done) | omega | (simp; omega)) _) | (with_reducible refine bstep ?_ (by with_reducible assumption))))), Kp.of_below (by (repeat' (first | with_reducible assumption | with_reducible exact Below.refl _ _ | (with_reducible refine below_drewN ?_ _) | (with_reducible refine Below.drew ?_) | (with_reducible refine balloc ?_ _) | (with_reducible refine Below.setCell ?_ (by first | exact Nat.le_refl _ | (simp; done) | omega | (simp; omega)) _) | (with_reducible refine bstep ?_ (by with_reducible assumption)))))⟩
                · have t7 := neq_beq c1
                  rw [if_neg c1] at hR
                  clear c1
                  by_cases c1 : c = [98, 101]
                  · have t8 : (c == [98, 101]) = true := beq_iff_eq.2 c1
                    rw [if_pos c1] at hR
                    clear c1
                    have hR := Lib.hid hR
                    go_enter Tryz.func123, Tryz.ntmps123
                    go_wp2_with fail
                    go_quiet (fail)
                    go_wp2_with fail
                    go_ret
                    rw [← hR.out]
                    exact ⟨rfl, hh.out.on (by (repeat' (first | with_reducible assumption | with_reducible exact Below.refl _ _ | (with_reducible refine below_drewN ?_ _) | (with_reducible refine Below.drew ?_) | (with_reducible refine balloc ?_ _) | (with_reducible refine Below.setCell ?_ (by first | exact Nat.le_refl _ | (simp; done) | omega | (simp; omega)) _) | (with_reducible refine bstep ?_ (by with_reducible assumption))))), Kp.of_below (by (repeat' (first | with_reducible assumption | with_reducible exact Below.refl _ _ | (with_reducible refine below_drewN ?_ _) | (with_reducible refine Below.drew ?_) | (with_reducible refine balloc ?_ _) | (with_reducible refine Below.setCell ?_ (by first | exact Nat.le_refl _ | (simp; done) | omega | (simp; omega)) _) | (with_reducible refine bstep ?_ (by with_reducible assumption)))))⟩
                  · have t8 := neq_beq c1
                    rw [if_neg c1] at hR
                    clear c1
                    by_cases c1 : c = [97]
                    · have t9 : (c == [97]) = true := beq_iff_eq.2 c1
                      rw [if_pos c1] at hR
                      clear c1
                      have hR := Lib.hid hR
                      go_enter Tryz.func123, Tryz.ntmps123
                      go_wp2_with fail
                      go_quiet (fail)
                      go_wp2_with fail
                      go_ret
                      rw [← hR.out]
                      exact ⟨rfl, hh.out.on (by (repeat' (first | with_reducible assumption | with_reducible exact Below.refl _ _ | (with_reducible refine below_drewN ?_ _) | (with_reducible refine Below.drew ?_) | (with_reducible refine balloc ?_ _) | (with_reducible refine Below.setCell ?_ (by first | exact Nat.le_refl _ | (simp; done) | omega | (simp; omega)) _) | (with_reducible refine bstep ?_ (by with_reducible assumption))))), Kp.of_below (by (repeat' (first | with_reducible assumption | with_reducible exact Below.refl _ _ | (with_reducible refine below_drewN ?_ _) | (with_reducible refine Below.drew ?_) | (with_reducible refine balloc ?_ _) | (with_reducible refine Below.setCell ?_ (by first | exact Nat.le_refl _ | (simp; done) | omega | (simp; omega)) _) | (with_reducible refine bstep ?_ (by with_reducible assumption)))))⟩
                    · have t9 := neq_beq c1
                      rw [if_neg c1] at hR
                      clear c1
                      have hR := Lib.hid hR
                      go_enter Tryz.func123, Tryz.ntmps123
                      go_wp2_with fail
                      go_quiet (fail)
                      go_wp2_with fail
                      go_ret
                      rw [← hR.out]
                      exact ⟨rfl, hh.out.on (by (repeat' (first | with_reducible assumption | with_reducible exact Below.refl _ _ | (with_reducible refine below_drewN ?_ _) | (with_reducible refine Below.drew ?_) | (with_reducible refine balloc ?_ _) | (with_reducible refine Below.setCell ?_ (by first | exact Nat.le_refl _ | (simp; done) | omega | (simp; omega)) _) | (with_reducible refine bstep ?_ (by with_reducible assumption))))), Kp.of_below (by (repeat' (first | with_reducible assumption | with_reducible exact Below.refl _ _ | (with_reducible refine below_drewN ?_ _) | (with_reducible refine Below.drew ?_) | (with_reducible refine balloc ?_ _) | (with_reducible refine Below.setCell ?_ (by first | exact Nat.le_refl _ | (simp; done) | omega | (simp; omega)) _) | (with_reducible refine bstep ?_ (by with_reducible assumption)))))⟩
end Go.Proofs.YtfkfdffhajokkaaGreatDoor
