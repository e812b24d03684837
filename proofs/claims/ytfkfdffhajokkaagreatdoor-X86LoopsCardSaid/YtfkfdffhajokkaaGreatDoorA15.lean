/- What package x86's reading of a line of data answers; conditions: a text shorter than 2^32 less 15 bytes, the library's variables as they begin, the names that are gathered, and where their data lie. -/
import Derived.Test.YtfkfdffhajokkaaGreatDoorA14
namespace Go.Proofs.YtfkfdffhajokkaaGreatDoor
open Go.RowKit X
set_option linter.unusedSimpArgs false
/-- What has turned: with 'lay' the data alone, else nothing that was there. -/
def DatRet (w : World) (d : Nat) (lay : Bool) (e : Ending) (w' : World) (R : List UInt8 × Bool) : Prop :=
  e = .returned (.bool R.2) ∧ (lay = false → Below w.heap.size w w') ∧ (lay = true → Bx w' d (byteV R.1) 5 ∧ But d w w')
theorem But.of_below {w w' : World} {d : Nat} (h : Below w.heap.size w w') : But d w w' := ⟨h.os, h.tape, h.output, h.size, fun k hk _ => h.block k hk⟩
theorem DatRet.of_below {w w' : World} {d : Nat} {lay : Bool} {e : Ending} {R : List UInt8 × Bool} (he : e = .returned (.bool R.2)) (hb : Below w.heap.size w w') (hd : lay = true → Bx w d (byteV R.1) 5) : DatRet w d lay e w' R :=
  ⟨he, fun _ => hb, fun h => ⟨(hd h).below hb, But.of_below hb⟩⟩
/-- What becomes of a cell, its number told. -/
def datEnd (a : Int × Bool) (v : Option (Int × Int)) (lay : Bool) (data : List UInt8) (m : Nat × Int × Bool) : List UInt8 × Bool :=
  if !a.2 || !m.2.2 || !v.isSome || decide (a.1 < 0) || decide (a.1 > (v.getD (0, 0)).1 - m.1) then (data, false)
  else (if lay then putBytes m.2.1 m.1 ((v.getD (0, 0)).2 - 65536 + a.1).toNat data else data, true)
theorem But.trans {w a b : World} {d : Nat} (h : But d w a) (h2 : But d a b) : But d w b :=
  ⟨h2.os.trans h.os, h2.tape.trans h.tape, h2.output.trans h.output, Nat.le_trans h.size h2.size, fun k hk hne => (h2.block k (Nat.lt_of_lt_of_le hk h.size) hne).trans (h.block k hk hne)⟩
/-- Where the data lie. -/
structure DatAt (w : World) (p d : Nat) (data : List UInt8) : Prop where
  cell : ∃ cap, w.cell? ⟨p, 4, none⟩ = some (.slice (some ⟨d, 0, none⟩) data.length cap)
  box : Bx w d (byteV data) 5
  ne : d ≠ p
  small : data.length ≤ 1099511627776
theorem byteV_size (l : List UInt8) : (byteV l).size = l.length := by simp [byteV]
theorem putBytes_len (n : Int) : ∀ (k at_ : Nat) (d : List UInt8), (putBytes n k at_ d).length = d.length
  | 0, _, _ => rfl
  | k + 1, a, d => by unfold putBytes; rw [List.length_set, putBytes_len n k a d]
theorem byte_cell (n : Int) (k : Nat) : Value.int .u8 (IntKind.u64.wrap n / 2 ^ (8 * k) % 256) = .int .u8 ((X.byteOf n k).toNat : Int) := by
  have h : IntKind.u64.wrap n = ((n % 18446744073709551616).toNat : Int) := by
    have e : IntKind.u64.wrap n = X.u64 n := rfl
    rw [e, u64_eq]; omega
  have h2 : ((n % 18446744073709551616).toNat / 2 ^ (8 * k) % 256 : Nat) < 256 := Nat.mod_lt _ (by decide)
  rw [h]
  unfold X.byteOf
  rw [UInt8.toNat_ofNat', Nat.mod_eq_of_lt (a := _ % 256) (by omega)]
  simp
theorem byteV_set (l : List UInt8) (i : Nat) (b : UInt8) : (byteV l).setIfInBounds i (.int .u8 (b.toNat : Int)) = byteV (l.set i b) := by
  unfold byteV
  apply Array.ext'
  simp
theorem But.setDrew {w a : World} {d i : Nat} {v : Value} (h : But d w a) : But d w (a.setCell ⟨d, i, none⟩ v).drew :=
  ⟨h.os, h.tape, h.output, by have := size_setCell a ⟨d, i, none⟩ v; have h2 := h.size; show w.heap.size ≤ (a.setCell ⟨d, i, none⟩ v).heap.size; omega, fun k hk hne => (Below.heap_setCell _ _ _ _ hne).trans (h.block k hk hne)⟩
theorem number_in64 (s : Str) (b : Nat) (hb : b = 32 ∨ b = 64) : In64 (number s b).1 := by
  unfold number
  cases h : Lib.parseIntB b s with
  | ok v => have := parseIntB_ran h; rcases hb with rfl | rfl <;> (unfold In64; simp only; omega)
  | range => rcases hb with rfl | rfl <;> (unfold In64 Lib.intSat; simp only; split <;> omega)
  | _ => unfold In64; simp only; omega
set_option maxHeartbeats 2000000 in
set_option maxRecDepth 100000 in
/-- The first part is another one. -/
theorem datum_cell (p d : Nat) (s : ByteArray) (hs : s.size < 4294967281) (lay : Bool) (labels : List (Str × Int)) (vars : List (Str × (Int × Int))) (data : List UInt8) (w : World) (E : Env w) (N : Names w p labels vars)
    (HL : LabOk labels) (HV : VarOk vars data.length) (HD : lay = true → DatAt w p d data) (hd : ¬ (splitOn 32 (bl s)).headD [] = ([46, 100, 97, 116, 97] : Str)) :
    Calls Tryz.prog 28 #[.pointer (some ⟨p, 0, none⟩), .string s, .bool lay] w fun e w' => DatRet w d lay e w' (datum labels vars data lay (bl s)) := by
  obtain ⟨R, hR⟩ : ∃ R, datum labels vars data lay (bl s) = R := ⟨_, rfl⟩
  rw [hR]
  obtain ⟨l, hl⟩ : ∃ l, splitOn 32 (bl s) = l := ⟨_, rfl⟩
  have h0 : 0 < l.length := by rw [← hl]; exact List.length_pos_iff.2 (splitOn_ne 32 (bl s))
  have hsz : ∀ k, (l.getD k []).length ≤ s.size := fun k => by rw [← hl, ← bl_len]; exact getD_le 32 (bl s) k
  have HS := fun w E => Lib.hid (Split_is s 32 l l.length hs hl rfl w E)
  obtain ⟨p0, hp0⟩ : ∃ p, l.getD 0 [] = p := ⟨_, rfl⟩
  have hhd : l.headD [] = p0 := by rw [← hp0]; cases l <;> rfl
  have hc0 : (strCells l)[0]? = some (.string (St p0)) := by rw [← hp0]; exact strCells_cell l 0 h0
  unfold datum at hR
  simp only [hl] at hR
  rw [hl] at hd
  rw [if_neg hd] at hR
  rw [hhd] at hd
  have e0 : (p0 == [46, 100, 97, 116, 97]) = false := by rw [Bool.eq_false_iff, ne_eq, beq_iff_eq]; exact hd
  by_cases h4 : l.length = 4
  · have e3 : ((l.length : Int) == 4) = true := beq_iff_eq.2 (by omega)
    have e3' : ((l.length : Int) != 4) = false := by unfold bne; rw [e3]; rfl
    obtain ⟨p1, hp1⟩ : ∃ p, l.getD 1 [] = p := ⟨_, rfl⟩
    obtain ⟨p2, hp2⟩ : ∃ p, l.getD 2 [] = p := ⟨_, rfl⟩
    obtain ⟨p3, hp3⟩ : ∃ p, l.getD 3 [] = p := ⟨_, rfl⟩
    have hc1 : (strCells l)[1]? = some (.string (St p1)) := by rw [← hp1]; exact strCells_cell l 1 (by omega)
    have hc2 : (strCells l)[2]? = some (.string (St p2)) := by rw [← hp2]; exact strCells_cell l 2 (by omega)
    have hc3 : (strCells l)[3]? = some (.string (St p3)) := by rw [← hp3]; exact strCells_cell l 3 (by omega)
    have hz2 : (St p2).size < 4294967281 := by have := hsz 2; rw [hp2] at this; rw [St_size]; omega
    have hz3 : (St p3).size < 4294967281 := by have := hsz 3; rw [hp3] at this; rw [St_size]; omega
    have l1 : 1 < l.length := by omega
    have l2 : 2 < l.length := by omega
    have l3 : 3 < l.length := by omega
    have HA : ∀ w E, Hid _ := fun w E => Lib.hid (number_32 (St p2) hz2 w E)
    have HQ : ∀ w E, Hid _ := fun w E => Lib.hid (number_64 (St p3) hz3 w E)
    have HB : ∀ w E, Hid _ := fun w E => Lib.hid (number_32 (St p3) hz3 w E)
    obtain ⟨q, hq⟩ : ∃ q, number p2 32 = q := ⟨_, rfl⟩
    obtain ⟨an, af⟩ := q
    obtain ⟨q, hq4⟩ : ∃ q, number p3 64 = q := ⟨_, rfl⟩
    obtain ⟨qn, qf⟩ := q
    obtain ⟨q, hq3⟩ : ∃ q, number p3 32 = q := ⟨_, rfl⟩
    obtain ⟨bn, bf⟩ := q
    obtain ⟨v, hv⟩ : ∃ v, vars.lookup p1 = v := ⟨_, rfl⟩
    obtain ⟨lb, hlb⟩ : ∃ v, labels.lookup p3 = v := ⟨_, rfl⟩
    have hVo : ∀ u, v = some u → 1 ≤ u.1 ∧ u.1 ≤ 65536 ∧ 65536 ≤ u.2 ∧ u.2 + u.1 ≤ 65536 + data.length := fun u h => HV p1 u (by rw [hv, h])
    have hLo : 0 ≤ lb.getD 0 ∧ lb.getD 0 ≤ 4294967296 := by
      cases lb with
      | none => decide
      | some x => exact HL p3 x hlb
    have ha64 := number_in64 p2 32 (.inl rfl)
    have hq64 := number_in64 p3 64 (.inr rfl)
    have hb64 := number_in64 p3 32 (.inl rfl)
    rw [hq] at ha64
    rw [hq4] at hq64
    rw [hq3] at hb64
    simp only [bl_St, hq, hq3, hq4] at HA HB HQ
    rw [if_neg (by omega), hp1, hp2, hv, hq] at hR
    have hR : datEnd (an, af) v lay data (cellOf labels l) = R := hR
    unfold cellOf at hR
    rw [hp3, hhd, hq3, hq4, hlb] at hR
    obtain ⟨r1, r2, n1, n2, n3, n4⟩ := N
    have hp := World.block_lt_of_cell? w _ n1
    simp only at hp
    have XL := (Bx.new (w := w) (c := strCells l) (T := 9))
    have hx := XL.cell
    have M0 := n4.alloc n4.lt (.cells (strCells l) 9)
    have M1 := M0.alloc M0.lt (.cells #[.int .i64 0, .int .i64 0] 110)
    have hV1 := var_run (w := (w.alloc (.cells (strCells l) 9)).drew) M0 (St p1)
    have hV2 := var_run (w := ((w.alloc (.cells (strCells l) 9)).alloc (.cells #[.int .i64 0, .int .i64 0] 110)).drew) M1 (St p1)
    have hV3 := var_run (w := (w.alloc (.cells (strCells l) 9)).drew.alloc (.cells #[.int .i64 0, .int .i64 0] 110)) M1 (St p1)
    rw [bl_St, hv] at hV1 hV2 hV3
    have l1' : (1 : Int) < (l.length : Int) := by omega
    clear M0 M1
    have FZ : ∀ wz, wz = ((w.alloc (.cells (strCells l) 9)).alloc (.cells #[.int .i64 (v.getD (0, 0)).1, .int .i64 (v.getD (0, 0)).2] 110)).drew → Bx wz w.heap.size (strCells l) 9 ∧ Bx wz (w.heap.size + 1) #[.int .i64 (v.getD (0, 0)).1, .int .i64 (v.getD (0, 0)).2] 110 ∧ Below w.heap.size w wz := by
      rintro wz rfl
      have h2 := Bx.new (w := w.alloc (.cells (strCells l) 9)) (c := #[.int .i64 (v.getD (0, 0)).1, .int .i64 (v.getD (0, 0)).2]) (T := 110)
      rw [World.size_alloc] at h2
      exact ⟨XL.alloc.drew, h2.drew, by (repeat' (first | with_reducible assumption | with_reducible exact Below.refl _ _ | (with_reducible refine below_drewN ?_ _) | (with_reducible refine Below.drew ?_) | (with_reducible refine balloc ?_ _) | (with_reducible refine Below.setCell ?_ (by first | exact Nat.le_refl _ | (simp; done) | omega | (simp; omega)) _) | (with_reducible refine bstep ?_ (by with_reducible assumption))))⟩
    have B1 := balloc (Below.refl w.heap.size w) (.cells (strCells l) 9)
    have E1 := E.below B1
    clear hz2 hz3 hq hq3 hq4 hv hp0 hp1 hp2 hp3 hsz hl hd hhd h4 HV HL
    have hR := Lib.hid hR
    have hVo := Lib.hid hVo
    go_enter Tryz.func28, Tryz.ntmps28
    go_wp2_with fail
    refine ((HS _ E).out).mono ?_
    rintro e w1 ⟨rfl, rfl⟩
    go_wp2_with fail
    go_region
    all_goals
      go_wp2_with fail
      first
        | generalize hz : ((w.alloc (.cells (strCells l) 9)).alloc (.cells #[.int .i64 (v.getD (0, 0)).1, .int .i64 (v.getD (0, 0)).2] 110)).drew = wz
        | generalize hz : (w.alloc (.cells (strCells l) 9)).drew.alloc (.cells #[.int .i64 (v.getD (0, 0)).1, .int .i64 (v.getD (0, 0)).2] 110) = wz
      obtain ⟨hzx, XV, BZ⟩ := FZ wz hz.symm
      clear hz
      refine ((HA _ (E.below BZ)).out).mono ?_
      rintro e w2 ⟨rfl, hb2⟩
      have hx2 := (hzx.below hb2).cell
      have hv2 := (XV.below hb2).cell
      have B2 := bstep BZ hb2
      clear hx
      by_cases k1 : p0 = [46, 113, 117, 97, 100]
      · have t1 : (p0 == [46, 113, 117, 97, 100]) = true := beq_iff_eq.2 k1
        have hRk := Lib.hid (show datEnd (an, af) v lay data (8, qn, qf) = R by rw [← hR.out, if_pos k1])
        clear hR k1
        go_wp2_with fail
        refine ((HQ _ (E.below B2)).out).mono ?_
        rintro e w3 ⟨rfl, hb3⟩
        have hv3 := (XV.below hb2).below hb3
        have B3 := bstep B2 hb3
        cases qf with
        | false =>
          cases af with
          | false =>
            have hRf : Hid ((data, false) = R) := Lib.hid (by rw [← hRk.out]; simp [datEnd])
            clear hRk
            go_wp2_with fail
            go_ret
            exact DatRet.of_below (by rw [← hRf.out]; rfl) (by (repeat' (first | with_reducible assumption | with_reducible exact Below.refl _ _ | (with_reducible refine below_drewN ?_ _) | (with_reducible refine Below.drew ?_) | (with_reducible refine balloc ?_ _) | (with_reducible refine Below.setCell ?_ (by first | exact Nat.le_refl _ | (simp; done) | omega | (simp; omega)) _) | (with_reducible refine bstep ?_ (by with_reducible assumption))))) (by rw [← hRf.out]; exact fun h => (HD h).box)
          | true =>
            have hRf : Hid ((data, false) = R) := Lib.hid (by rw [← hRk.out]; simp [datEnd])
            clear hRk
            go_wp2_with fail
            go_ret
            exact DatRet.of_below (by rw [← hRf.out]; rfl) (by (repeat' (first | with_reducible assumption | with_reducible exact Below.refl _ _ | (with_reducible refine below_drewN ?_ _) | (with_reducible refine Below.drew ?_) | (with_reducible refine balloc ?_ _) | (with_reducible refine Below.setCell ?_ (by first | exact Nat.le_refl _ | (simp; done) | omega | (simp; omega)) _) | (with_reducible refine bstep ?_ (by with_reducible assumption))))) (by rw [← hRf.out]; exact fun h => (HD h).box)
        | true =>
          have hvn := hv3.cell
          cases af with
          | false =>
            have hRf : Hid ((data, false) = R) := Lib.hid (by rw [← hRk.out]; simp [datEnd])
            clear hRk
            go_wp2_with fail
            go_ret
            exact DatRet.of_below (by rw [← hRf.out]; rfl) (by (repeat' (first | with_reducible assumption | with_reducible exact Below.refl _ _ | (with_reducible refine below_drewN ?_ _) | (with_reducible refine Below.drew ?_) | (with_reducible refine balloc ?_ _) | (with_reducible refine Below.setCell ?_ (by first | exact Nat.le_refl _ | (simp; done) | omega | (simp; omega)) _) | (with_reducible refine bstep ?_ (by with_reducible assumption))))) (by rw [← hRf.out]; exact fun h => (HD h).box)
          | true =>
            cases v with
            | none =>
              have hRf : Hid ((data, false) = R) := Lib.hid (by rw [← hRk.out]; simp [datEnd])
              clear hRk
              go_wp2_with fail
              go_ret
              exact DatRet.of_below (by rw [← hRf.out]; rfl) (by (repeat' (first | with_reducible assumption | with_reducible exact Below.refl _ _ | (with_reducible refine below_drewN ?_ _) | (with_reducible refine Below.drew ?_) | (with_reducible refine balloc ?_ _) | (with_reducible refine Below.setCell ?_ (by first | exact Nat.le_refl _ | (simp; done) | omega | (simp; omega)) _) | (with_reducible refine bstep ?_ (by with_reducible assumption))))) (by rw [← hRf.out]; exact fun h => (HD h).box)
            | some u =>
              obtain ⟨vs, va⟩ := u
              obtain ⟨v1, v2, v3, v4⟩ := hVo.out _ rfl
              by_cases c1 : an < 0
              · have hRf : Hid ((data, false) = R) := Lib.hid (by rw [← hRk.out]; simp [datEnd, c1])
                clear hRk
                go_wp2_with fail
                go_ret
                exact DatRet.of_below (by rw [← hRf.out]; rfl) (by (repeat' (first | with_reducible assumption | with_reducible exact Below.refl _ _ | (with_reducible refine below_drewN ?_ _) | (with_reducible refine Below.drew ?_) | (with_reducible refine balloc ?_ _) | (with_reducible refine Below.setCell ?_ (by first | exact Nat.le_refl _ | (simp; done) | omega | (simp; omega)) _) | (with_reducible refine bstep ?_ (by with_reducible assumption))))) (by rw [← hRf.out]; exact fun h => (HD h).box)
              · by_cases c2 : an > vs - 8
                · have hRf : Hid ((data, false) = R) := Lib.hid (by rw [← hRk.out]; simp [datEnd, c2])
                  clear hRk
                  go_wp2_with fail
                  go_ret
                  exact DatRet.of_below (by rw [← hRf.out]; rfl) (by (repeat' (first | with_reducible assumption | with_reducible exact Below.refl _ _ | (with_reducible refine below_drewN ?_ _) | (with_reducible refine Below.drew ?_) | (with_reducible refine balloc ?_ _) | (with_reducible refine Below.setCell ?_ (by first | exact Nat.le_refl _ | (simp; done) | omega | (simp; omega)) _) | (with_reducible refine bstep ?_ (by with_reducible assumption))))) (by rw [← hRf.out]; exact fun h => (HD h).box)
                · cases lay with
                  | false =>
                    have hRs : Hid ((data, true) = R) := Lib.hid (by rw [← hRk.out]; simp [datEnd, c1, c2])
                    clear hRk
                    go_wp2_with fail
                    go_loopg [19] 1 (fun q u wr => u = .int .i64 0 ∧ wr = w3)
                    case atStart => exact ⟨rfl, rfl⟩
                    case round =>
                      obtain ⟨rfl, rfl⟩ := hrel
                      go_wp2_with fail
                      go_ret
                      exact DatRet.of_below (by rw [← hRs.out]; rfl) (by (repeat' (first | with_reducible assumption | with_reducible exact Below.refl _ _ | (with_reducible refine below_drewN ?_ _) | (with_reducible refine Below.drew ?_) | (with_reducible refine balloc ?_ _) | (with_reducible refine Below.setCell ?_ (by first | exact Nat.le_refl _ | (simp; done) | omega | (simp; omega)) _) | (with_reducible refine bstep ?_ (by with_reducible assumption))))) (by intro h; cases h)
                  | true =>
                    have hRs : Hid ((putBytes qn 8 (va - 65536 + an).toNat data, true) = R) := Lib.hid (by rw [← hRk.out]; simp [datEnd, c1, c2])
                    obtain ⟨⟨cp, hcell⟩, hbox, hne, hsm⟩ := HD rfl
                    clear hRk HD
                    have D3 := hbox.belowAt B3 hbox.lt
                    have C3 := cell_below B3 hcell
                    have hdl := hbox.lt
                    go_wp2_with fail
                    go_loopg [19] (8 + 1) (fun q u wr => ∃ k : Nat, u = .int .i64 k ∧ k ≤ 8 ∧ q + k = 8 + 1 ∧ Bx wr d (byteV (putBytes qn k (va - 65536 + an).toNat data)) 5 ∧ But d w3 wr)
                    case atStart => exact ⟨0, rfl, by omega, rfl, D3, But.of_below (Below.refl _ _)⟩
                    case round =>
                      obtain ⟨k, rfl, hk, hq, DB, BT⟩ := hrel
                      by_cases hlt : k < 8
                      · obtain ⟨J, hJ⟩ : ∃ J : Nat, va - 65536 + an = (J : Int) := ⟨(va - 65536 + an).toNat, by omega⟩
                        have hJl : J + k < data.length := by omega
                        have hcp : wr.cell? ⟨p, 4, none⟩ = some (.slice (some ⟨d, 0, none⟩) data.length cp) := by
                          rw [← C3]; exact World.cell?_of_block (BT.block p (Nat.lt_of_lt_of_le hp B3.size) (fun e => hne e.symm))
                        have hxv : ∀ i, wr.cell? ⟨w.heap.size + 1, i, none⟩ = (#[.int .i64 vs, .int .i64 va] : Array Value)[i]? := fun i => by
                          have := hvn i; simp only [Option.getD_some] at this; rw [← this]; exact World.cell?_of_block (BT.block (w.heap.size + 1) (hv3.lt) (fun e => by have : w.heap.size + 1 = d := e; omega))
                        obtain ⟨bo, hbo⟩ : ∃ v, (byteV (putBytes qn k (va - 65536 + an).toNat data))[J + k]? = some v := by
                          refine ⟨_, Array.getElem?_eq_getElem ?_⟩
                          rw [byteV_size, putBytes_len]; exact hJl
                        have hdc : wr.cell? ⟨d, J + k, none⟩ = some bo := by rw [DB.cell]; exact hbo
                        have hdf := DB.frozen
                        clear hvn hRs C3
                        go_wp2_with fail
                        go_region
                        have hJ2 : (va - 65536 + an).toNat = J := by omega
                        have hw : IntKind.u64.wrap qn = IntKind.u64.wrap qn := by
                          first
                            | rfl
                            | (have e : IntKind.u64.wrap qn = X.u64 qn := rfl
                               rw [e, u64_eq]; omega)
                        have hb : Value.int .u8 (IntKind.u64.wrap qn / 2 ^ (8 * k) % 256) = .int .u8 ((X.byteOf qn k).toNat : Int) := (congrArg (fun z : Int => Value.int .u8 (z / 2 ^ (8 * k) % 256)) hw).trans (byte_cell _ _)
                        have DB2 : Bx (wr.setCell ⟨d, J + k, none⟩ (.int .u8 (IntKind.u64.wrap qn / 2 ^ (8 * k) % 256))).drew d (byteV (putBytes qn (k + 1) (va - 65536 + an).toNat data)) 5 := by
                          have h := DB.set (i := J + k) (v := .int .u8 (IntKind.u64.wrap qn / 2 ^ (8 * k) % 256))
                          have h2 : byteV (putBytes qn (k + 1) (va - 65536 + an).toNat data) = (byteV (putBytes qn k (va - 65536 + an).toNat data)).setIfInBounds (J + k) (.int .u8 (IntKind.u64.wrap qn / 2 ^ (8 * k) % 256)) := by
                            rw [hb, byteV_set, hJ2]; rfl
                          rw [h2]
                          exact h.drew
                        have BT2 : But d w3 (wr.setCell ⟨d, J + k, none⟩ (.int .u8 (IntKind.u64.wrap qn / 2 ^ (8 * k) % 256))).drew := BT.setDrew
                        clear DB BT hxv hdc hcp hdf hb hw
                        go_wp2_with fail
                        go_roundg (gk - 1)
                        case measure => omega
                        case rel => exact ⟨k + 1, rfl, by omega, by omega, DB2, BT2⟩
                      · obtain rfl : k = 8 := (by omega)
                        go_wp2_with fail
                        go_ret
                        exact ⟨by rw [← hRs.out]; rfl, (fun h => by cases h), fun _ => ⟨by rw [← hRs.out]; exact DB, (But.of_below B3).trans BT⟩⟩
      · have t1 : (p0 == [46, 113, 117, 97, 100]) = false := by rw [Bool.eq_false_iff, ne_eq, beq_iff_eq]; exact k1
        by_cases k2 : p0 = [46, 98, 121, 116, 101]
        · have t2 : (p0 == [46, 98, 121, 116, 101]) = true := beq_iff_eq.2 k2
          have hRk := Lib.hid (show datEnd (an, af) v lay data (1, bn, bf && decide (0 ≤ bn) && decide (bn ≤ 255)) = R by rw [← hR.out, if_neg k1, if_pos k2])
          clear hR k1 k2
          go_wp2_with fail
          refine ((HB _ (E.below B2)).out).mono ?_
          rintro e w3 ⟨rfl, hb3⟩
          have hv3 := (XV.below hb2).below hb3
          have B3 := bstep B2 hb3
          cases bf with
          | false =>
            cases af with
            | false =>
              have hRf : Hid ((data, false) = R) := Lib.hid (by rw [← hRk.out]; simp [datEnd])
              clear hRk
              go_wp2_with fail
              go_ret
              exact DatRet.of_below (by rw [← hRf.out]; rfl) (by (repeat' (first | with_reducible assumption | with_reducible exact Below.refl _ _ | (with_reducible refine below_drewN ?_ _) | (with_reducible refine Below.drew ?_) | (with_reducible refine balloc ?_ _) | (with_reducible refine Below.setCell ?_ (by first | exact Nat.le_refl _ | (simp; done) | omega | (simp; omega)) _) | (with_reducible refine bstep ?_ (by with_reducible assumption))))) (by rw [← hRf.out]; exact fun h => (HD h).box)
            | true =>
              have hRf : Hid ((data, false) = R) := Lib.hid (by rw [← hRk.out]; simp [datEnd])
              clear hRk
              go_wp2_with fail
              go_ret
              exact DatRet.of_below (by rw [← hRf.out]; rfl) (by (repeat' (first | with_reducible assumption | with_reducible exact Below.refl _ _ | (with_reducible refine below_drewN ?_ _) | (with_reducible refine Below.drew ?_) | (with_reducible refine balloc ?_ _) | (with_reducible refine Below.setCell ?_ (by first | exact Nat.le_refl _ | (simp; done) | omega | (simp; omega)) _) | (with_reducible refine bstep ?_ (by with_reducible assumption))))) (by rw [← hRf.out]; exact fun h => (HD h).box)
          | true =>
            by_cases b1 : 0 ≤ bn
            · by_cases b2 : bn ≤ 255
              · have hRk' := Lib.hid (show datEnd (an, af) v lay data (1, bn, true) = R by rw [← hRk.out, decide_eq_true b1, decide_eq_true b2]; rfl)
                clear hRk
                have hRk := hRk'
                clear hRk'
                have hvn := hv3.cell
                cases af with
                | false =>
                  have hRf : Hid ((data, false) = R) := Lib.hid (by rw [← hRk.out]; simp [datEnd])
                  clear hRk
                  go_wp2_with fail
                  go_ret
                  exact DatRet.of_below (by rw [← hRf.out]; rfl) (by (repeat' (first | with_reducible assumption | with_reducible exact Below.refl _ _ | (with_reducible refine below_drewN ?_ _) | (with_reducible refine Below.drew ?_) | (with_reducible refine balloc ?_ _) | (with_reducible refine Below.setCell ?_ (by first | exact Nat.le_refl _ | (simp; done) | omega | (simp; omega)) _) | (with_reducible refine bstep ?_ (by with_reducible assumption))))) (by rw [← hRf.out]; exact fun h => (HD h).box)
                | true =>
                  cases v with
                  | none =>
                    have hRf : Hid ((data, false) = R) := Lib.hid (by rw [← hRk.out]; simp [datEnd])
                    clear hRk
                    go_wp2_with fail
                    go_ret
                    exact DatRet.of_below (by rw [← hRf.out]; rfl) (by (repeat' (first | with_reducible assumption | with_reducible exact Below.refl _ _ | (with_reducible refine below_drewN ?_ _) | (with_reducible refine Below.drew ?_) | (with_reducible refine balloc ?_ _) | (with_reducible refine Below.setCell ?_ (by first | exact Nat.le_refl _ | (simp; done) | omega | (simp; omega)) _) | (with_reducible refine bstep ?_ (by with_reducible assumption))))) (by rw [← hRf.out]; exact fun h => (HD h).box)
                  | some u =>
                    obtain ⟨vs, va⟩ := u
                    obtain ⟨v1, v2, v3, v4⟩ := hVo.out _ rfl
                    by_cases c1 : an < 0
                    · have hRf : Hid ((data, false) = R) := Lib.hid (by rw [← hRk.out]; simp [datEnd, c1])
                      clear hRk
                      go_wp2_with fail
                      go_ret
                      exact DatRet.of_below (by rw [← hRf.out]; rfl) (by (repeat' (first | with_reducible assumption | with_reducible exact Below.refl _ _ | (with_reducible refine below_drewN ?_ _) | (with_reducible refine Below.drew ?_) | (with_reducible refine balloc ?_ _) | (with_reducible refine Below.setCell ?_ (by first | exact Nat.le_refl _ | (simp; done) | omega | (simp; omega)) _) | (with_reducible refine bstep ?_ (by with_reducible assumption))))) (by rw [← hRf.out]; exact fun h => (HD h).box)
                    · by_cases c2 : an > vs - 1
                      · have hRf : Hid ((data, false) = R) := Lib.hid (by rw [← hRk.out]; simp [datEnd, c2])
                        clear hRk
                        go_wp2_with fail
                        go_ret
                        exact DatRet.of_below (by rw [← hRf.out]; rfl) (by (repeat' (first | with_reducible assumption | with_reducible exact Below.refl _ _ | (with_reducible refine below_drewN ?_ _) | (with_reducible refine Below.drew ?_) | (with_reducible refine balloc ?_ _) | (with_reducible refine Below.setCell ?_ (by first | exact Nat.le_refl _ | (simp; done) | omega | (simp; omega)) _) | (with_reducible refine bstep ?_ (by with_reducible assumption))))) (by rw [← hRf.out]; exact fun h => (HD h).box)
                      · cases lay with
                        | false =>
                          have hRs : Hid ((data, true) = R) := Lib.hid (by rw [← hRk.out]; simp [datEnd, c1, c2])
                          clear hRk
                          go_wp2_with fail
                          go_loopg [19] 1 (fun q u wr => u = .int .i64 0 ∧ wr = w3)
                          case atStart => exact ⟨rfl, rfl⟩
                          case round =>
                            obtain ⟨rfl, rfl⟩ := hrel
                            go_wp2_with fail
                            go_ret
                            exact DatRet.of_below (by rw [← hRs.out]; rfl) (by (repeat' (first | with_reducible assumption | with_reducible exact Below.refl _ _ | (with_reducible refine below_drewN ?_ _) | (with_reducible refine Below.drew ?_) | (with_reducible refine balloc ?_ _) | (with_reducible refine Below.setCell ?_ (by first | exact Nat.le_refl _ | (simp; done) | omega | (simp; omega)) _) | (with_reducible refine bstep ?_ (by with_reducible assumption))))) (by intro h; cases h)
                        | true =>
                          have hRs : Hid ((putBytes bn 1 (va - 65536 + an).toNat data, true) = R) := Lib.hid (by rw [← hRk.out]; simp [datEnd, c1, c2])
                          obtain ⟨⟨cp, hcell⟩, hbox, hne, hsm⟩ := HD rfl
                          clear hRk HD
                          have D3 := hbox.belowAt B3 hbox.lt
                          have C3 := cell_below B3 hcell
                          have hdl := hbox.lt
                          go_wp2_with fail
                          go_loopg [19] (1 + 1) (fun q u wr => ∃ k : Nat, u = .int .i64 k ∧ k ≤ 1 ∧ q + k = 1 + 1 ∧ Bx wr d (byteV (putBytes bn k (va - 65536 + an).toNat data)) 5 ∧ But d w3 wr)
                          case atStart => exact ⟨0, rfl, by omega, rfl, D3, But.of_below (Below.refl _ _)⟩
                          case round =>
                            obtain ⟨k, rfl, hk, hq, DB, BT⟩ := hrel
                            by_cases hlt : k < 1
                            · obtain ⟨J, hJ⟩ : ∃ J : Nat, va - 65536 + an = (J : Int) := ⟨(va - 65536 + an).toNat, by omega⟩
                              have hJl : J + k < data.length := by omega
                              have hcp : wr.cell? ⟨p, 4, none⟩ = some (.slice (some ⟨d, 0, none⟩) data.length cp) := by
                                rw [← C3]; exact World.cell?_of_block (BT.block p (Nat.lt_of_lt_of_le hp B3.size) (fun e => hne e.symm))
                              have hxv : ∀ i, wr.cell? ⟨w.heap.size + 1, i, none⟩ = (#[.int .i64 vs, .int .i64 va] : Array Value)[i]? := fun i => by
                                have := hvn i; simp only [Option.getD_some] at this; rw [← this]; exact World.cell?_of_block (BT.block (w.heap.size + 1) (hv3.lt) (fun e => by have : w.heap.size + 1 = d := e; omega))
                              obtain ⟨bo, hbo⟩ : ∃ v, (byteV (putBytes bn k (va - 65536 + an).toNat data))[J + k]? = some v := by
                                refine ⟨_, Array.getElem?_eq_getElem ?_⟩
                                rw [byteV_size, putBytes_len]; exact hJl
                              have hdc : wr.cell? ⟨d, J + k, none⟩ = some bo := by rw [DB.cell]; exact hbo
                              have hdf := DB.frozen
                              clear hvn hRs C3
                              go_wp2_with fail
                              go_region
                              have hJ2 : (va - 65536 + an).toNat = J := by omega
                              have hw : bn = IntKind.u64.wrap bn := by
                                first
                                  | rfl
                                  | (have e : IntKind.u64.wrap bn = X.u64 bn := rfl
                                     rw [e, u64_eq]; omega)
                              have hb : Value.int .u8 (bn / 2 ^ (8 * k) % 256) = .int .u8 ((X.byteOf bn k).toNat : Int) := (congrArg (fun z : Int => Value.int .u8 (z / 2 ^ (8 * k) % 256)) hw).trans (byte_cell _ _)
                              have DB2 : Bx (wr.setCell ⟨d, J + k, none⟩ (.int .u8 (bn / 2 ^ (8 * k) % 256))).drew d (byteV (putBytes bn (k + 1) (va - 65536 + an).toNat data)) 5 := by
                                have h := DB.set (i := J + k) (v := .int .u8 (bn / 2 ^ (8 * k) % 256))
                                have h2 : byteV (putBytes bn (k + 1) (va - 65536 + an).toNat data) = (byteV (putBytes bn k (va - 65536 + an).toNat data)).setIfInBounds (J + k) (.int .u8 (bn / 2 ^ (8 * k) % 256)) := by
                                  rw [hb, byteV_set, hJ2]; rfl
                                rw [h2]
                                exact h.drew
                              have BT2 : But d w3 (wr.setCell ⟨d, J + k, none⟩ (.int .u8 (bn / 2 ^ (8 * k) % 256))).drew := BT.setDrew
                              clear DB BT hxv hdc hcp hdf hb hw
                              go_wp2_with fail
                              go_roundg (gk - 1)
                              case measure => omega
                              case rel => exact ⟨k + 1, rfl, by omega, by omega, DB2, BT2⟩
                            · obtain rfl : k = 1 := (by omega)
                              go_wp2_with fail
                              go_ret
                              exact ⟨by rw [← hRs.out]; rfl, (fun h => by cases h), fun _ => ⟨by rw [← hRs.out]; exact DB, (But.of_below B3).trans BT⟩⟩
              · have hRk' := Lib.hid (show datEnd (an, af) v lay data (1, bn, false) = R by rw [← hRk.out, decide_eq_false b2, Bool.and_false])
                clear hRk
                have hRk := hRk'
                clear hRk'
                cases af with
                | false =>
                  have hRf : Hid ((data, false) = R) := Lib.hid (by rw [← hRk.out]; simp [datEnd])
                  clear hRk
                  go_wp2_with fail
                  go_ret
                  exact DatRet.of_below (by rw [← hRf.out]; rfl) (by (repeat' (first | with_reducible assumption | with_reducible exact Below.refl _ _ | (with_reducible refine below_drewN ?_ _) | (with_reducible refine Below.drew ?_) | (with_reducible refine balloc ?_ _) | (with_reducible refine Below.setCell ?_ (by first | exact Nat.le_refl _ | (simp; done) | omega | (simp; omega)) _) | (with_reducible refine bstep ?_ (by with_reducible assumption))))) (by rw [← hRf.out]; exact fun h => (HD h).box)
                | true =>
                  have hRf : Hid ((data, false) = R) := Lib.hid (by rw [← hRk.out]; simp [datEnd])
                  clear hRk
                  go_wp2_with fail
                  go_ret
                  exact DatRet.of_below (by rw [← hRf.out]; rfl) (by (repeat' (first | with_reducible assumption | with_reducible exact Below.refl _ _ | (with_reducible refine below_drewN ?_ _) | (with_reducible refine Below.drew ?_) | (with_reducible refine balloc ?_ _) | (with_reducible refine Below.setCell ?_ (by first | exact Nat.le_refl _ | (simp; done) | omega | (simp; omega)) _) | (with_reducible refine bstep ?_ (by with_reducible assumption))))) (by rw [← hRf.out]; exact fun h => (HD h).box)
            · have hRk' := Lib.hid (show datEnd (an, af) v lay data (1, bn, false) = R by rw [← hRk.out, decide_eq_false b1, Bool.and_false, Bool.false_and])
              clear hRk
              have hRk := hRk'
              clear hRk'
              cases af with
              | false =>
                have hRf : Hid ((data, false) = R) := Lib.hid (by rw [← hRk.out]; simp [datEnd])
                clear hRk
                go_wp2_with fail
                go_ret
                exact DatRet.of_below (by rw [← hRf.out]; rfl) (by (repeat' (first | with_reducible assumption | with_reducible exact Below.refl _ _ | (with_reducible refine below_drewN ?_ _) | (with_reducible refine Below.drew ?_) | (with_reducible refine balloc ?_ _) | (with_reducible refine Below.setCell ?_ (by first | exact Nat.le_refl _ | (simp; done) | omega | (simp; omega)) _) | (with_reducible refine bstep ?_ (by with_reducible assumption))))) (by rw [← hRf.out]; exact fun h => (HD h).box)
              | true =>
                have hRf : Hid ((data, false) = R) := Lib.hid (by rw [← hRk.out]; simp [datEnd])
                clear hRk
                go_wp2_with fail
                go_ret
                exact DatRet.of_below (by rw [← hRf.out]; rfl) (by (repeat' (first | with_reducible assumption | with_reducible exact Below.refl _ _ | (with_reducible refine below_drewN ?_ _) | (with_reducible refine Below.drew ?_) | (with_reducible refine balloc ?_ _) | (with_reducible refine Below.setCell ?_ (by first | exact Nat.le_refl _ | (simp; done) | omega | (simp; omega)) _) | (with_reducible refine bstep ?_ (by with_reducible assumption))))) (by rw [← hRf.out]; exact fun h => (HD h).box)
        · have t2 : (p0 == [46, 98, 121, 116, 101]) = false := by rw [Bool.eq_false_iff, ne_eq, beq_iff_eq]; exact k2
          by_cases k3 : p0 = [46, 97, 100, 100, 114]
          · have t3 : (p0 == [46, 97, 100, 100, 114]) = true := beq_iff_eq.2 k3
            have hRk := Lib.hid (show datEnd (an, af) v lay data (8, 268435456 + lb.getD 0, lb.isSome) = R by rw [← hR.out, if_neg k1, if_neg k2, if_pos k3])
            clear hR k1 k2 k3
            have B3 := B2
            have hv3 := XV.below hb2
            have hcl := cell_below B2 n1
            have hL1 := fun m => lab_run (w := w2.drewN m) ((n2.below B2).drewN m) (St p3)
            rw [bl_St, hlb] at hL1
            have l3' : (3 : Int) < (l.length : Int) := by omega
            go_wp2_with fail
            go_quiet (fail)
            generalize hzd : w2.drewN _ = w3
            have hv4 : Bx w3 (w.heap.size + 1) #[.int .i64 (v.getD (0, 0)).1, .int .i64 (v.getD (0, 0)).2] 110 := by rw [← hzd]; exact hv3
            have B4 : Below w.heap.size w w3 := by rw [← hzd]; (repeat' (first | with_reducible assumption | with_reducible exact Below.refl _ _ | (with_reducible refine below_drewN ?_ _) | (with_reducible refine Below.drew ?_) | (with_reducible refine balloc ?_ _) | (with_reducible refine Below.setCell ?_ (by first | exact Nat.le_refl _ | (simp; done) | omega | (simp; omega)) _) | (with_reducible refine bstep ?_ (by with_reducible assumption))))
            clear hL1 hcl hv3 B3 hv2 hx2
            have B3 := B4
            have hv3 := hv4
            clear B4 hv4 hzd
            cases lb with
            | none =>
              cases af with
              | false =>
                have hRf : Hid ((data, false) = R) := Lib.hid (by rw [← hRk.out]; simp [datEnd])
                clear hRk
                go_wp2_with fail
                go_ret
                exact DatRet.of_below (by rw [← hRf.out]; rfl) (by (repeat' (first | with_reducible assumption | with_reducible exact Below.refl _ _ | (with_reducible refine below_drewN ?_ _) | (with_reducible refine Below.drew ?_) | (with_reducible refine balloc ?_ _) | (with_reducible refine Below.setCell ?_ (by first | exact Nat.le_refl _ | (simp; done) | omega | (simp; omega)) _) | (with_reducible refine bstep ?_ (by with_reducible assumption))))) (by rw [← hRf.out]; exact fun h => (HD h).box)
              | true =>
                have hRf : Hid ((data, false) = R) := Lib.hid (by rw [← hRk.out]; simp [datEnd])
                clear hRk
                go_wp2_with fail
                go_ret
                exact DatRet.of_below (by rw [← hRf.out]; rfl) (by (repeat' (first | with_reducible assumption | with_reducible exact Below.refl _ _ | (with_reducible refine below_drewN ?_ _) | (with_reducible refine Below.drew ?_) | (with_reducible refine balloc ?_ _) | (with_reducible refine Below.setCell ?_ (by first | exact Nat.le_refl _ | (simp; done) | omega | (simp; omega)) _) | (with_reducible refine bstep ?_ (by with_reducible assumption))))) (by rw [← hRf.out]; exact fun h => (HD h).box)
            | some lv =>
              simp only [Option.getD_some, Option.isSome_some] at hRk hLo
              have hvn := hv3.cell
              cases af with
              | false =>
                have hRf : Hid ((data, false) = R) := Lib.hid (by rw [← hRk.out]; simp [datEnd])
                clear hRk
                go_wp2_with fail
                go_ret
                exact DatRet.of_below (by rw [← hRf.out]; rfl) (by (repeat' (first | with_reducible assumption | with_reducible exact Below.refl _ _ | (with_reducible refine below_drewN ?_ _) | (with_reducible refine Below.drew ?_) | (with_reducible refine balloc ?_ _) | (with_reducible refine Below.setCell ?_ (by first | exact Nat.le_refl _ | (simp; done) | omega | (simp; omega)) _) | (with_reducible refine bstep ?_ (by with_reducible assumption))))) (by rw [← hRf.out]; exact fun h => (HD h).box)
              | true =>
                cases v with
                | none =>
                  have hRf : Hid ((data, false) = R) := Lib.hid (by rw [← hRk.out]; simp [datEnd])
                  clear hRk
                  go_wp2_with fail
                  go_ret
                  exact DatRet.of_below (by rw [← hRf.out]; rfl) (by (repeat' (first | with_reducible assumption | with_reducible exact Below.refl _ _ | (with_reducible refine below_drewN ?_ _) | (with_reducible refine Below.drew ?_) | (with_reducible refine balloc ?_ _) | (with_reducible refine Below.setCell ?_ (by first | exact Nat.le_refl _ | (simp; done) | omega | (simp; omega)) _) | (with_reducible refine bstep ?_ (by with_reducible assumption))))) (by rw [← hRf.out]; exact fun h => (HD h).box)
                | some u =>
                  obtain ⟨vs, va⟩ := u
                  obtain ⟨v1, v2, v3, v4⟩ := hVo.out _ rfl
                  by_cases c1 : an < 0
                  · have hRf : Hid ((data, false) = R) := Lib.hid (by rw [← hRk.out]; simp [datEnd, c1])
                    clear hRk
                    go_wp2_with fail
                    go_ret
                    exact DatRet.of_below (by rw [← hRf.out]; rfl) (by (repeat' (first | with_reducible assumption | with_reducible exact Below.refl _ _ | (with_reducible refine below_drewN ?_ _) | (with_reducible refine Below.drew ?_) | (with_reducible refine balloc ?_ _) | (with_reducible refine Below.setCell ?_ (by first | exact Nat.le_refl _ | (simp; done) | omega | (simp; omega)) _) | (with_reducible refine bstep ?_ (by with_reducible assumption))))) (by rw [← hRf.out]; exact fun h => (HD h).box)
                  · by_cases c2 : an > vs - 8
                    · have hRf : Hid ((data, false) = R) := Lib.hid (by rw [← hRk.out]; simp [datEnd, c2])
                      clear hRk
                      go_wp2_with fail
                      go_ret
                      exact DatRet.of_below (by rw [← hRf.out]; rfl) (by (repeat' (first | with_reducible assumption | with_reducible exact Below.refl _ _ | (with_reducible refine below_drewN ?_ _) | (with_reducible refine Below.drew ?_) | (with_reducible refine balloc ?_ _) | (with_reducible refine Below.setCell ?_ (by first | exact Nat.le_refl _ | (simp; done) | omega | (simp; omega)) _) | (with_reducible refine bstep ?_ (by with_reducible assumption))))) (by rw [← hRf.out]; exact fun h => (HD h).box)
                    · cases lay with
                      | false =>
                        have hRs : Hid ((data, true) = R) := Lib.hid (by rw [← hRk.out]; simp [datEnd, c1, c2])
                        clear hRk
                        go_wp2_with fail
                        go_loopg [19] 1 (fun q u wr => u = .int .i64 0 ∧ wr = w3)
                        case atStart => exact ⟨rfl, rfl⟩
                        case round =>
                          obtain ⟨rfl, rfl⟩ := hrel
                          go_wp2_with fail
                          go_ret
                          exact DatRet.of_below (by rw [← hRs.out]; rfl) (by (repeat' (first | with_reducible assumption | with_reducible exact Below.refl _ _ | (with_reducible refine below_drewN ?_ _) | (with_reducible refine Below.drew ?_) | (with_reducible refine balloc ?_ _) | (with_reducible refine Below.setCell ?_ (by first | exact Nat.le_refl _ | (simp; done) | omega | (simp; omega)) _) | (with_reducible refine bstep ?_ (by with_reducible assumption))))) (by intro h; cases h)
                      | true =>
                        have hRs : Hid ((putBytes (268435456 + lv) 8 (va - 65536 + an).toNat data, true) = R) := Lib.hid (by rw [← hRk.out]; simp [datEnd, c1, c2])
                        obtain ⟨⟨cp, hcell⟩, hbox, hne, hsm⟩ := HD rfl
                        clear hRk HD
                        have D3 := hbox.belowAt B3 hbox.lt
                        have C3 := cell_below B3 hcell
                        have hdl := hbox.lt
                        go_wp2_with fail
                        go_loopg [19] (8 + 1) (fun q u wr => ∃ k : Nat, u = .int .i64 k ∧ k ≤ 8 ∧ q + k = 8 + 1 ∧ Bx wr d (byteV (putBytes (268435456 + lv) k (va - 65536 + an).toNat data)) 5 ∧ But d w3 wr)
                        case atStart => exact ⟨0, rfl, by omega, rfl, D3, But.of_below (Below.refl _ _)⟩
                        case round =>
                          obtain ⟨k, rfl, hk, hq, DB, BT⟩ := hrel
                          by_cases hlt : k < 8
                          · obtain ⟨J, hJ⟩ : ∃ J : Nat, va - 65536 + an = (J : Int) := ⟨(va - 65536 + an).toNat, by omega⟩
                            have hJl : J + k < data.length := by omega
                            have hcp : wr.cell? ⟨p, 4, none⟩ = some (.slice (some ⟨d, 0, none⟩) data.length cp) := by
                              rw [← C3]; exact World.cell?_of_block (BT.block p (Nat.lt_of_lt_of_le hp B3.size) (fun e => hne e.symm))
                            have hxv : ∀ i, wr.cell? ⟨w.heap.size + 1, i, none⟩ = (#[.int .i64 vs, .int .i64 va] : Array Value)[i]? := fun i => by
                              have := hvn i; simp only [Option.getD_some] at this; rw [← this]; exact World.cell?_of_block (BT.block (w.heap.size + 1) (hv3.lt) (fun e => by have : w.heap.size + 1 = d := e; omega))
                            obtain ⟨bo, hbo⟩ : ∃ v, (byteV (putBytes (268435456 + lv) k (va - 65536 + an).toNat data))[J + k]? = some v := by
                              refine ⟨_, Array.getElem?_eq_getElem ?_⟩
                              rw [byteV_size, putBytes_len]; exact hJl
                            have hdc : wr.cell? ⟨d, J + k, none⟩ = some bo := by rw [DB.cell]; exact hbo
                            have hdf := DB.frozen
                            clear hvn hRs C3
                            go_wp2_with fail
                            go_region
                            have hJ2 : (va - 65536 + an).toNat = J := by omega
                            have hw : (268435456 + lv) = IntKind.u64.wrap (268435456 + lv) := by
                              first
                                | rfl
                                | (have e : IntKind.u64.wrap (268435456 + lv) = X.u64 (268435456 + lv) := rfl
                                   rw [e, u64_eq]; omega)
                            have hb : Value.int .u8 ((268435456 + lv) / 2 ^ (8 * k) % 256) = .int .u8 ((X.byteOf (268435456 + lv) k).toNat : Int) := (congrArg (fun z : Int => Value.int .u8 (z / 2 ^ (8 * k) % 256)) hw).trans (byte_cell _ _)
                            have DB2 : Bx (wr.setCell ⟨d, J + k, none⟩ (.int .u8 ((268435456 + lv) / 2 ^ (8 * k) % 256))).drew d (byteV (putBytes (268435456 + lv) (k + 1) (va - 65536 + an).toNat data)) 5 := by
                              have h := DB.set (i := J + k) (v := .int .u8 ((268435456 + lv) / 2 ^ (8 * k) % 256))
                              have h2 : byteV (putBytes (268435456 + lv) (k + 1) (va - 65536 + an).toNat data) = (byteV (putBytes (268435456 + lv) k (va - 65536 + an).toNat data)).setIfInBounds (J + k) (.int .u8 ((268435456 + lv) / 2 ^ (8 * k) % 256)) := by
                                rw [hb, byteV_set, hJ2]; rfl
                              rw [h2]
                              exact h.drew
                            have BT2 : But d w3 (wr.setCell ⟨d, J + k, none⟩ (.int .u8 ((268435456 + lv) / 2 ^ (8 * k) % 256))).drew := BT.setDrew
                            clear DB BT hxv hdc hcp hdf hb hw
                            go_wp2_with fail
                            go_roundg (gk - 1)
                            case measure => omega
                            case rel => exact ⟨k + 1, rfl, by omega, by omega, DB2, BT2⟩
                          · obtain rfl : k = 8 := (by omega)
                            go_wp2_with fail
                            go_ret
                            exact ⟨by rw [← hRs.out]; rfl, (fun h => by cases h), fun _ => ⟨by rw [← hRs.out]; exact DB, (But.of_below B3).trans BT⟩⟩
          · have t3 : (p0 == [46, 97, 100, 100, 114]) = false := by rw [Bool.eq_false_iff, ne_eq, beq_iff_eq]; exact k3
            have hRk := Lib.hid (show datEnd (an, af) v lay data (8, 0, false) = R by rw [← hR.out, if_neg k1, if_neg k2, if_neg k3])
            clear hR k1 k2 k3
            have B3 := B2
            have hv3 := XV.below hb2
            cases af with
            | false =>
              have hRf : Hid ((data, false) = R) := Lib.hid (by rw [← hRk.out]; simp [datEnd])
              clear hRk
              go_wp2_with fail
              go_ret
              exact DatRet.of_below (by rw [← hRf.out]; rfl) (by (repeat' (first | with_reducible assumption | with_reducible exact Below.refl _ _ | (with_reducible refine below_drewN ?_ _) | (with_reducible refine Below.drew ?_) | (with_reducible refine balloc ?_ _) | (with_reducible refine Below.setCell ?_ (by first | exact Nat.le_refl _ | (simp; done) | omega | (simp; omega)) _) | (with_reducible refine bstep ?_ (by with_reducible assumption))))) (by rw [← hRf.out]; exact fun h => (HD h).box)
            | true =>
              have hRf : Hid ((data, false) = R) := Lib.hid (by rw [← hRk.out]; simp [datEnd])
              clear hRk
              go_wp2_with fail
              go_ret
              exact DatRet.of_below (by rw [← hRf.out]; rfl) (by (repeat' (first | with_reducible assumption | with_reducible exact Below.refl _ _ | (with_reducible refine below_drewN ?_ _) | (with_reducible refine Below.drew ?_) | (with_reducible refine balloc ?_ _) | (with_reducible refine Below.setCell ?_ (by first | exact Nat.le_refl _ | (simp; done) | omega | (simp; omega)) _) | (with_reducible refine bstep ?_ (by with_reducible assumption))))) (by rw [← hRf.out]; exact fun h => (HD h).box)
  · have e3 : ((l.length : Int) == 4) = false := beq_f (by omega)
    have e3' : ((l.length : Int) != 4) = true := by unfold bne; rw [e3]; rfl
    have hR := Lib.hid (show (data, false) = R by rw [← hR]; simp [h4])
    have HD' := Lib.hid fun h => (HD h).box
    clear hp0 hsz hl hd hhd h4 HD HL HV
    go_enter Tryz.func28, Tryz.ntmps28
    go_wp2_with fail
    refine ((HS _ E).out).mono ?_
    rintro e w1 ⟨rfl, rfl⟩
    have XL := (Bx.new (w := w) (c := strCells l) (T := 9))
    have hx := XL.cell
    go_wp2_with fail
    go_ret
    exact DatRet.of_below (by rw [← hR.out]; rfl) (by (repeat' (first | with_reducible assumption | with_reducible exact Below.refl _ _ | (with_reducible refine below_drewN ?_ _) | (with_reducible refine Below.drew ?_) | (with_reducible refine balloc ?_ _) | (with_reducible refine Below.setCell ?_ (by first | exact Nat.le_refl _ | (simp; done) | omega | (simp; omega)) _) | (with_reducible refine bstep ?_ (by with_reducible assumption))))) (by rw [← hR.out]; exact HD'.out)
end Go.Proofs.YtfkfdffhajokkaaGreatDoor
