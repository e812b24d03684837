/- What package x86's reading of a line of data answers; conditions: a text shorter than 2^32 less 15 bytes, the library's variables as they begin, the names that are gathered, and where their data lie. -/
import Derived.Test.YtfkfdffhajokkaaGreatDoorA13
namespace Go.Proofs.YtfkfdffhajokkaaGreatDoor
open Go.RowKit X
set_option linter.unusedSimpArgs false
def byteV (l : List UInt8) : Array Value := (l.map fun b => Value.int .u8 (b.toNat : Int)).toArray
def LabOk (labels : List (Str × Int)) : Prop := ∀ n v, labels.lookup n = some v → 0 ≤ v ∧ v ≤ 4294967296
def VarOk (vars : List (Str × (Int × Int))) (N : Nat) : Prop := ∀ n v, vars.lookup n = some v → 1 ≤ v.1 ∧ v.1 ≤ 65536 ∧ 65536 ≤ v.2 ∧ v.2 + v.1 ≤ 65536 + N
set_option maxHeartbeats 1000000 in
set_option maxRecDepth 100000 in
/-- The first part is '.data'. -/
theorem datum_size (p : Nat) (s : ByteArray) (hs : s.size < 4294967281) (lay : Bool) (w : World) (E : Env w) (hd : (splitOn 32 (bl s)).headD [] = ([46, 100, 97, 116, 97] : Str)) :
    Calls Tryz.prog 28 #[.pointer (some ⟨p, 0, none⟩), .string s, .bool lay] w fun e w' => e = .returned (.bool (dataSize (splitOn 32 (bl s)))) ∧ Below w.heap.size w w' := by
  obtain ⟨R, hR⟩ : ∃ R, dataSize (splitOn 32 (bl s)) = R := ⟨_, rfl⟩
  rw [hR]
  obtain ⟨l, hl⟩ : ∃ l, splitOn 32 (bl s) = l := ⟨_, rfl⟩
  have h0 : 0 < l.length := by rw [← hl]; exact List.length_pos_iff.2 (splitOn_ne 32 (bl s))
  have hsz : ∀ k, (l.getD k []).length ≤ s.size := fun k => by rw [← hl, ← bl_len]; exact getD_le 32 (bl s) k
  have HS := fun w E => Lib.hid (Split_is s 32 l l.length hs hl rfl w E)
  obtain ⟨p0, hp0⟩ : ∃ p, l.getD 0 [] = p := ⟨_, rfl⟩
  have hhd : l.headD [] = p0 := by rw [← hp0]; cases l <;> rfl
  have hc0 : (strCells l)[0]? = some (.string (St p0)) := by rw [← hp0]; exact strCells_cell l 0 h0
  rw [hl] at hd hR
  rw [hhd] at hd
  have e0 : (p0 == [46, 100, 97, 116, 97]) = true := by rw [hd]; rfl
  unfold dataSize at hR
  by_cases h3 : l.length = 3
  · have e3 : ((l.length : Int) == 3) = true := beq_iff_eq.2 (by omega)
    obtain ⟨p1, hp1⟩ : ∃ p, l.getD 1 [] = p := ⟨_, rfl⟩
    obtain ⟨p2, hp2⟩ : ∃ p, l.getD 2 [] = p := ⟨_, rfl⟩
    have hc1 : (strCells l)[1]? = some (.string (St p1)) := by rw [← hp1]; exact strCells_cell l 1 (by omega)
    have hc2 : (strCells l)[2]? = some (.string (St p2)) := by rw [← hp2]; exact strCells_cell l 2 (by omega)
    have hz1 : (St p1).size < 4294967281 := by have := hsz 1; rw [hp1] at this; rw [St_size]; omega
    have hz2 : (St p2).size < 4294967281 := by have := hsz 2; rw [hp2] at this; rw [St_size]; omega
    have l1 : 1 < l.length := by omega
    have l2 : 2 < l.length := by omega
    have HN : ∀ w E, Hid _ := fun w E => Lib.hid (number_32 (St p2) hz2 w E)
    have HM : ∀ w, Hid _ := fun w => Lib.hid (named_any (St p1) hz1 w)
    obtain ⟨q, hq⟩ : ∃ q, number p2 32 = q := ⟨_, rfl⟩
    obtain ⟨m, f⟩ := q
    obtain ⟨nb, hnb⟩ : ∃ q, named p1 = q := ⟨_, rfl⟩
    rw [bl_St, hq] at HN
    rw [bl_St, hnb] at HM
    rw [h3, hp1, hp2, hq, hnb] at hR
    simp only [decide_true, Bool.true_and] at hR
    clear hz1 hz2 hq hnb hp0 hp1 hp2 hsz hl hd hhd h3
    have hR := Lib.hid hR
    go_enter Tryz.func28, Tryz.ntmps28
    go_wp2_with fail
    refine ((HS _ E).out).mono ?_
    rintro e w1 ⟨rfl, rfl⟩
    have XL := (Bx.new (w := w) (c := strCells l) (T := 9))
    have B1 := balloc (Below.refl w.heap.size w) (.cells (strCells l) 9)
    have E1 := E.below B1
    have hx := XL.cell
    go_wp2_with fail
    refine ((HN _ E1).out).mono ?_
    rintro e w2 ⟨rfl, hb2⟩
    have X2 := XL.below hb2
    have hx2 := X2.cell
    cases f with
    | false =>
      go_wp2_with fail
      go_ret
      exact ⟨by rw [← hR.out]; rfl, by (repeat' (first | with_reducible assumption | with_reducible exact Below.refl _ _ | (with_reducible refine below_drewN ?_ _) | (with_reducible refine Below.drew ?_) | (with_reducible refine balloc ?_ _) | (with_reducible refine Below.setCell ?_ (by first | exact Nat.le_refl _ | (simp; done) | omega | (simp; omega)) _) | (with_reducible refine bstep ?_ (by with_reducible assumption))))⟩
    | true =>
      go_wp2_with fail
      refine ((HM _).out).mono ?_
      rintro e w3 ⟨rfl, rfl⟩
      cases nb with
      | false =>
        go_wp2_with fail
        go_ret
        exact ⟨by rw [← hR.out]; rfl, by (repeat' (first | with_reducible assumption | with_reducible exact Below.refl _ _ | (with_reducible refine below_drewN ?_ _) | (with_reducible refine Below.drew ?_) | (with_reducible refine balloc ?_ _) | (with_reducible refine Below.setCell ?_ (by first | exact Nat.le_refl _ | (simp; done) | omega | (simp; omega)) _) | (with_reducible refine bstep ?_ (by with_reducible assumption))))⟩
      | true =>
        by_cases c1 : 1 ≤ m
        · by_cases c2 : m ≤ 65536
          · go_wp2_with fail
            go_ret
            exact ⟨by rw [← hR.out]; simp [c1, c2], by (repeat' (first | with_reducible assumption | with_reducible exact Below.refl _ _ | (with_reducible refine below_drewN ?_ _) | (with_reducible refine Below.drew ?_) | (with_reducible refine balloc ?_ _) | (with_reducible refine Below.setCell ?_ (by first | exact Nat.le_refl _ | (simp; done) | omega | (simp; omega)) _) | (with_reducible refine bstep ?_ (by with_reducible assumption))))⟩
          · go_wp2_with fail
            go_ret
            exact ⟨by rw [← hR.out]; simp [c1, c2], by (repeat' (first | with_reducible assumption | with_reducible exact Below.refl _ _ | (with_reducible refine below_drewN ?_ _) | (with_reducible refine Below.drew ?_) | (with_reducible refine balloc ?_ _) | (with_reducible refine Below.setCell ?_ (by first | exact Nat.le_refl _ | (simp; done) | omega | (simp; omega)) _) | (with_reducible refine bstep ?_ (by with_reducible assumption))))⟩
        · go_wp2_with fail
          go_ret
          exact ⟨by rw [← hR.out, decide_eq_false (Int.not_le.2 c1)]; rfl, by (repeat' (first | with_reducible assumption | with_reducible exact Below.refl _ _ | (with_reducible refine below_drewN ?_ _) | (with_reducible refine Below.drew ?_) | (with_reducible refine balloc ?_ _) | (with_reducible refine Below.setCell ?_ (by first | exact Nat.le_refl _ | (simp; done) | omega | (simp; omega)) _) | (with_reducible refine bstep ?_ (by with_reducible assumption))))⟩
  · have e3 : ((l.length : Int) == 3) = false := beq_f (by omega)
    have e3' : ((l.length : Int) != 3) = true := by unfold bne; rw [e3]; rfl
    have hR := Lib.hid (show false = R by rw [← hR]; simp [h3])
    clear hp0 hsz hl hd hhd h3
    go_enter Tryz.func28, Tryz.ntmps28
    go_wp2_with fail
    refine ((HS _ E).out).mono ?_
    rintro e w1 ⟨rfl, rfl⟩
    have XL := (Bx.new (w := w) (c := strCells l) (T := 9))
    have hx := XL.cell
    go_wp2_with fail
    go_ret
    exact ⟨by rw [← hR.out]; rfl, by (repeat' (first | with_reducible assumption | with_reducible exact Below.refl _ _ | (with_reducible refine below_drewN ?_ _) | (with_reducible refine Below.drew ?_) | (with_reducible refine balloc ?_ _) | (with_reducible refine Below.setCell ?_ (by first | exact Nat.le_refl _ | (simp; done) | omega | (simp; omega)) _) | (with_reducible refine bstep ?_ (by with_reducible assumption))))⟩
end Go.Proofs.YtfkfdffhajokkaaGreatDoor
