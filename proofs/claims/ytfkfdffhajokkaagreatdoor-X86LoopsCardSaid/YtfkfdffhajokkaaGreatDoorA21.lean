/- What package x86's machine stores at an address; conditions: a machine that lies in memory. -/
import Derived.Test.YtfkfdffhajokkaaGreatDoorA20
namespace Go.Proofs.YtfkfdffhajokkaaGreatDoor
open Go.RowKit X
set_option linter.unusedSimpArgs false
theorem putN_snoc (f : Nat → UInt8) (o k : Nat) (v : Int) (i : Nat) : putN f o (k + 1) v i = if i = o + k then X.byteOf v k else putN f o k v i := by
  unfold putN
  by_cases h : i = o + k
  · subst h
    rw [if_pos (by omega), if_pos rfl, show o + k - o = k by omega]
  · rw [if_neg h]
    by_cases h2 : o ≤ i ∧ i < o + k
    · rw [if_pos (by omega), if_pos h2]
    · rw [if_neg (by omega), if_neg h2]
/-- The stack's bytes have turned. -/
theorem MAt.stacked {w0 w w' : World} {L : Lay} {C : Cd} {m : Mach} {vi vo : Value} (h : MAt w0 w L C m vi vo) (K : LOk w0 L C) (hb : But L.sb w w') (f : Nat → UInt8) (hf : ByteRow w' (some ⟨L.sb, 0, none⟩) L.sN f) : MAt w0 w' L C { m with stack := f } vi vo := by
  obtain ⟨b, cur, e, hx, -, -⟩ := h.stack K.s0
  cases e
  refine ⟨h.below.trans ⟨hb.os, hb.tape, hb.output, hb.size, fun k hk => hb.block k (Nat.lt_of_lt_of_le hk h.below.size) (by have := K.sb; omega)⟩, h.box.of_block (hb.block _ h.box.lt (h.box.ne hx (by decide))), ?_, hf, h.inp, ?_, ⟨h.ok.regs, h.ok.x, h.ok.y, h.ok.at0, h.ok.at1, h.ok.kind, h.ok.code, h.ok.least⟩, h.sN, Nat.le_trans h.hi hb.size⟩
  · exact h.data.of_block fun a c ha hc => hb.block _ hc.lt (K.ad a ha).2.1
  · exact ownsRow_of_block h.out fun k hk => hb.block k (h.out.lt k hk).2 (by have := (h.out.lt k hk).1; have := K.sB; omega)
/-- The data's bytes have turned. -/
theorem MAt.dataed {w0 w w' : World} {L : Lay} {C : Cd} {m : Mach} {vi vo : Value} (h : MAt w0 w L C m vi vo) (K : LOk w0 L C) {d : Nat} (had : L.ad = some ⟨d, 0, none⟩) (hn : 0 < C.data.length) (hb : But d w w') (f : Nat → UInt8) (hf : ByteRow w' L.ad C.data.length f) : MAt w0 w' L C { m with data := f } vi vo := by
  obtain ⟨b, cur, e, hx, -, -⟩ := h.data hn
  rw [had] at e
  cases e
  obtain ⟨k1, k2, k3⟩ := K.ad _ had
  simp only at k1 k2 k3
  refine ⟨h.below.trans ⟨hb.os, hb.tape, hb.output, hb.size, fun k hk => hb.block k (Nat.lt_of_lt_of_le hk h.below.size) (by omega)⟩, h.box.of_block (hb.block _ h.box.lt (h.box.ne hx (by decide))), hf, ?_, h.inp, ?_, ⟨h.ok.regs, h.ok.x, h.ok.y, h.ok.at0, h.ok.at1, h.ok.kind, h.ok.code, h.ok.least⟩, h.sN, Nat.le_trans h.hi hb.size⟩
  · exact h.stack.of_block fun a c ha hc => hb.block _ hc.lt (by cases ha; exact fun e => k2 e.symm)
  · exact ownsRow_of_block h.out fun k hk => hb.block k (h.out.lt k hk).2 (by have := (h.out.lt k hk).1; omega)
theorem But.put {w a : World} {d i : Nat} {v : Value} (h : But d w a) : But d w (a.setCell ⟨d, i, none⟩ v) :=
  ⟨h.os, h.tape, h.output, by rw [size_setCell]; exact h.size, fun k hk hne => (Below.heap_setCell _ _ _ _ hne).trans (h.block k hk hne)⟩
/-- What a store, or another doing of the machine, answers. -/
def DoRet (w0 w : World) (L : Lay) (C : Cd) (vi vo : Value) (e : Ending) (w' : World) (m' : Mach) : Prop :=
  e = .returned (.tuple #[]) ∧ MAt w0 w' L C m' vi vo ∧ Kp L.S w w'
set_option maxHeartbeats 1000000 in
set_option maxRecDepth 100000 in
theorem store_any (w0 w : World) (L : Lay) (C : Cd) (m : Mach) (vi vo : Value) (K : LOk w0 L C) (h : MAt w0 w L C m vi vo) (a v : Int) (n : Nat) (ha : In64 a) (hn : 1 ≤ n ∧ n ≤ 8) :
    Calls Tryz.prog 84 #[.pointer (some ⟨L.mb, 0, none⟩), .int .i64 a, .int .i64 v, .int .i64 n] w fun e w' => DoRet w0 w L C vi vo e w' (X.store C m a v n) := by
  obtain ⟨R, hR⟩ : ∃ R, X.store C m a v n = R := ⟨_, rfl⟩
  rw [hR]
  unfold X.store at hR
  have HB := fun w h => Lib.hid (bytes_any w0 w L C m vi vo K h a n ha hn)
  go_enter Tryz.func84, Tryz.ntmps84
  go_wp2_with fail
  refine ((HB _ h).out).mono ?_
  rintro e w2 hB2
  obtain ⟨loc, hloc⟩ : ∃ l, locate C m a n = l := ⟨_, rfl⟩
  rw [hloc] at hR hB2
  clear hloc HB
  cases loc with
  | none =>
    obtain ⟨rfl, hM2, hK2⟩ := hB2
    go_wp2_with fail
    go_loop [16] (fun i => i = .int .i64 0) (fun _ => 0)
    case atStart => rfl
    case round =>
      obtain rfl := hrel
      go_wp2_with fail
      refine bodyPost_end (v := .tuple #[]) (by simp [results, Tryz.results84, go_sem]) rfl ?_
      rw [← hR]
      exact ⟨rfl, hM2, hK2⟩
  | some loc =>
    cases loc with
    | stack o =>
      obtain ⟨cp, rfl, ho, hb2⟩ := hB2
      obtain ⟨sb', cur, hsb, hBx, hcs, hcur⟩ := h.stack K.s0
      cases hsb
      have hBx2 := hBx.below hb2
      have hM2 := h.on hb2
      have hcap := Lib.hid hcur
      go_wp2_with fail
      go_loopg [16] (n + 1) (fun q i wr => ∃ (k : Nat) (cur' : Array Value), i = .int .i64 k ∧ k ≤ n ∧ q + k = n + 1 ∧ But L.sb w2 wr ∧ Bx wr L.sb cur' 5 ∧ cur'.size = cur.size ∧ (∀ j, j < L.sN → cur'[j]? = some (.int .u8 ((putN m.stack o k v j).toNat : Int))))
      case atStart => exact ⟨0, cur, rfl, by omega, rfl, But.of_below (Below.refl _ _), hBx2, rfl, fun j hj => by rw [hcap.out j hj]; unfold putN; rw [if_neg (by omega)]⟩
      case round =>
        obtain ⟨k, cur', rfl, hk, hq, BT, BX, hsz, hcu⟩ := hrel
        have hcu := Lib.hid hcu
        by_cases hlt : k < n
        · have hck : wr.cell? ⟨L.sb, o + k, none⟩ = some (.int .u8 ((putN m.stack o k v (o + k)).toNat : Int)) := by rw [BX.cell]; exact hcu.out _ (by omega)
          have hfz := BX.frozen
          go_wp2_with fail
          go_roundg (gk - 1)
          case measure => omega
          case rel =>
            refine ⟨k + 1, _, rfl, by omega, by omega, BT.put, BX.set, by simp [hsz], fun j hj => ?_⟩
            rw [Array.getElem?_setIfInBounds, putN_snoc, byte_cell]
            by_cases hj2 : o + k = j
            · subst hj2
              rw [if_pos rfl, if_pos rfl, if_pos (by omega)]
            · rw [if_neg hj2, if_neg (fun e => hj2 e.symm)]
              exact hcu.out j hj
        · obtain rfl : k = n := by omega
          go_wp2_with fail
          refine bodyPost_end (v := .tuple #[]) (by simp [results, Tryz.results84, go_sem]) rfl ?_
          rw [← hR]
          exact ⟨rfl, hM2.stacked K BT _ (fun _ => ⟨L.sb, cur', rfl, BX, by omega, hcu.out⟩), (Kp.of_below hb2).trans (Kp.of_but BT (by simp [Lay.S]))⟩
    | data o =>
      obtain ⟨blk, cp, had, rfl, ho, hb2⟩ := hB2
      obtain ⟨sb', cur, hsb, hBx, hcs, hcur⟩ := h.data (by omega)
      rw [had] at hsb
      cases hsb
      have hBx2 := hBx.below hb2
      have hM2 := h.on hb2
      have hcap := Lib.hid hcur
      go_wp2_with fail
      go_loopg [16] (n + 1) (fun q i wr => ∃ (k : Nat) (cur' : Array Value), i = .int .i64 k ∧ k ≤ n ∧ q + k = n + 1 ∧ But blk w2 wr ∧ Bx wr blk cur' 5 ∧ cur'.size = cur.size ∧ (∀ j, j < C.data.length → cur'[j]? = some (.int .u8 ((putN m.data o k v j).toNat : Int))))
      case atStart => exact ⟨0, cur, rfl, by omega, rfl, But.of_below (Below.refl _ _), hBx2, rfl, fun j hj => by rw [hcap.out j hj]; unfold putN; rw [if_neg (by omega)]⟩
      case round =>
        obtain ⟨k, cur', rfl, hk, hq, BT, BX, hsz, hcu⟩ := hrel
        have hcu := Lib.hid hcu
        by_cases hlt : k < n
        · have hck : wr.cell? ⟨blk, o + k, none⟩ = some (.int .u8 ((putN m.data o k v (o + k)).toNat : Int)) := by rw [BX.cell]; exact hcu.out _ (by omega)
          have hfz := BX.frozen
          go_wp2_with fail
          go_roundg (gk - 1)
          case measure => omega
          case rel =>
            refine ⟨k + 1, _, rfl, by omega, by omega, BT.put, BX.set, by simp [hsz], fun j hj => ?_⟩
            rw [Array.getElem?_setIfInBounds, putN_snoc, byte_cell]
            by_cases hj2 : o + k = j
            · subst hj2
              rw [if_pos rfl, if_pos rfl, if_pos (by omega)]
            · rw [if_neg hj2, if_neg (fun e => hj2 e.symm)]
              exact hcu.out j hj
        · obtain rfl : k = n := by omega
          go_wp2_with fail
          refine bodyPost_end (v := .tuple #[]) (by simp [results, Tryz.results84, go_sem]) rfl ?_
          rw [← hR]
          exact ⟨rfl, hM2.dataed K had (by omega) BT _ (fun _ => ⟨blk, cur', had, BX, by omega, hcu.out⟩), (Kp.of_below hb2).trans (Kp.of_but BT (by simp [Lay.S, had]))⟩
end Go.Proofs.YtfkfdffhajokkaaGreatDoor
/- Which address package x86's machine reckons; conditions: a machine that lies in memory, an operand whose registers are some. -/
namespace Go.Proofs.YtfkfdffhajokkaaGreatDoor
open Go.RowKit X
set_option linter.unusedSimpArgs false
/-- What is asked of an operand. -/
structure OpOk (o : Opd) : Prop where
  reg : o.kind ≠ 3 ∨ o.name = [] → 0 ≤ o.reg ∧ o.reg < 16
  x : o.x < 16
  n : In64 o.n
  scale : In64 o.scale
theorem mcells_reg (p : Nat) (m : Mach) (vd vs vi vo : Value) {r : Nat} (hr : r < 16) : (mcells p m vd vs vi vo)[1 + r]? = some (.int .i64 (m.regs r)) := by
  have h : r = 0 ∨ r = 1 ∨ r = 2 ∨ r = 3 ∨ r = 4 ∨ r = 5 ∨ r = 6 ∨ r = 7 ∨ r = 8 ∨ r = 9 ∨ r = 10 ∨ r = 11 ∨ r = 12 ∨ r = 13 ∨ r = 14 ∨ r = 15 := by omega
  rcases h with rfl | rfl | rfl | rfl | rfl | rfl | rfl | rfl | rfl | rfl | rfl | rfl | rfl | rfl | rfl | rfl <;> rfl
theorem MAt.reg {w0 w : World} {L : Lay} {C : Cd} {m : Mach} {vi vo : Value} (h : MAt w0 w L C m vi vo) {r : Nat} (hr : r < 16) : w.cell? ⟨L.mb, 1 + r, none⟩ = some (.int .i64 (m.regs r)) := by
  rw [h.box.cell]; exact mcells_reg _ _ _ _ _ _ hr
theorem var_run1 {w : World} {r : Nat} {l : List (Str × (Int × Int))} (hat : MapAt w r (varV l)) (k : ByteArray) : (Instr.lookup 64 (.map (some r)) (.string k) false).run Tryz.prog w = .ok (.agg #[.int .i64 ((l.lookup (bl k)).getD (0, 0)).1, .int .i64 ((l.lookup (bl k)).getD (0, 0)).2]) w := by
  rw [look_run hat (keysOk_str (fun n => Pv n) l) (.str k) 64 9 110 und64 und9 _ zero110 false _ (lookV_str (fun n => Pv n) l k)]
  cases l.lookup (bl k) <;> rfl
theorem lab_run1 {w : World} {r : Nat} {l : List (Str × Int)} (hat : MapAt w r (labV l)) (k : ByteArray) : (Instr.lookup 63 (.map (some r)) (.string k) false).run Tryz.prog w = .ok (.int .i64 ((l.lookup (bl k)).getD 0)) w := by
  rw [look_run hat (keysOk_str (fun n => .int .i64 n) l) (.str k) 63 9 3 und63 und9 _ zero3 false _ (lookV_str (fun n => .int .i64 n) l k)]
  cases l.lookup (bl k) <;> rfl
theorem field110 (w : World) (a b : Int) : (Instr.field 110 (.agg #[.int .i64 a, .int .i64 b]) 1).run Tryz.prog w = .ok (.int .i64 b) w := by kernel_rfl
/-- The code's cells, where the machine runs. -/
theorem MAt.code {w0 w : World} {L : Lay} {C : Cd} {m : Mach} {vi vo : Value} (h : MAt w0 w L C m vi vo) (K : LOk w0 L C) : ∃ B, CodeAt w B L.p C := by
  obtain ⟨B, hC⟩ := K.code
  exact ⟨B, hC.below h.below⟩
set_option maxHeartbeats 1000000 in
set_option maxRecDepth 100000 in
theorem address_any (w0 w : World) (L : Lay) (C : Cd) (m : Mach) (vi vo : Value) (K : LOk w0 L C) (h : MAt w0 w L C m vi vo) (o : Opd) (ok : OpOk o) (h3 : o.kind = 3) :
    Calls Tryz.prog 121 #[.pointer (some ⟨L.mb, 0, none⟩), Ov o] w fun e w' => e = .returned (.int .i64 (X.address C m o)) ∧ Below w.heap.size w w' := by
  obtain ⟨kind, reg, bytes, n, x, scale, name⟩ := o
  obtain ⟨okr, okx, okn, oks⟩ := ok
  simp only at okr okx okn oks h3
  obtain ⟨R, hR⟩ : ∃ R, X.address C m ⟨kind, reg, bytes, n, x, scale, name⟩ = R := ⟨_, rfl⟩
  rw [hR]
  unfold X.address at hR
  simp only at hR
  cases hn : name with
  | cons c t =>
    rw [hn] at hR
    have hne2 : (St (c :: t)).toList.isEmpty = false := by rw [ByteArray.toList_eq]; rfl
    have hR : wrap64 (((C.vars.lookup (c :: t)).getD (0, 0)).2 + n) = R := by rw [← hR, if_pos (by simp)]
    have hR := Lib.hid hR
    clear hn h3 okr okx
    have h1 := h.on (balloc (Below.refl _ w) (.cells #[.int .i64 kind, .int .i64 reg, .int .i64 bytes, .int .i64 n, .int .i64 x, .int .i64 scale, .string (St (c :: t))] 118))
    have X3 := Bx.new (w := w) (c := #[.int .i64 kind, .int .i64 reg, .int .i64 bytes, .int .i64 n, .int .i64 x, .int .i64 scale, .string (St (c :: t))]) (T := 118)
    have hx3 := X3.cell
    have hml := h.box.lt
    have hm0 : (w.alloc (.cells #[.int .i64 kind, .int .i64 reg, .int .i64 bytes, .int .i64 n, .int .i64 x, .int .i64 scale, .string (St (c :: t))] 118)).cell? ⟨L.mb, 0, none⟩ = some (.pointer (some ⟨L.p, 0, none⟩)) := by rw [h1.box.cell]; rfl
    obtain ⟨CB, hC⟩ := h1.code K
    obtain ⟨-, vl, xs, r1, r2, d, vsp, X1, -, -, -, MV, -, -, -⟩ := hC
    have hcx := X1.cell
    have hne : ¬ L.mb = w.heap.size := by omega
    have hV := var_run1 (w := (w.alloc (.cells #[.int .i64 kind, .int .i64 reg, .int .i64 bytes, .int .i64 n, .int .i64 x, .int .i64 scale, .string (St (c :: t))] 118)).drew) MV (St (c :: t))
    rw [bl_St] at hV
    have hF := field110
    go_enter Tryz.func121, Tryz.ntmps121
    go_wp2_with fail
    go_region
    all_goals
      go_wp2_with fail
      go_ret
      exact ⟨by rw [← hR.out]; rfl, by (repeat' (first | with_reducible assumption | with_reducible exact Below.refl _ _ | (with_reducible refine below_drewN ?_ _) | (with_reducible refine Below.drew ?_) | (with_reducible refine balloc ?_ _) | (with_reducible refine Below.setCell ?_ (by first | exact Nat.le_refl _ | (simp; done) | omega | (simp; omega)) _) | (with_reducible refine bstep ?_ (by with_reducible assumption))))⟩
  | nil =>
    have hne2 : (St []).toList.isEmpty = true := by rw [ByteArray.toList_eq]; rfl
    obtain ⟨hr0, hr1⟩ := okr (.inr hn)
    obtain ⟨r, rfl⟩ : ∃ r : Nat, reg = r := ⟨reg.toNat, by omega⟩
    have hrl : r < 16 := by omega
    rw [if_neg (by simpa using hn)] at hR
    have hrl' : (r : Int) < 16 := by omega
    by_cases hx0 : 0 ≤ x
    · obtain ⟨x, rfl⟩ : ∃ y : Nat, x = y := ⟨x.toNat, by omega⟩
      have hxl2 : x < 16 := by omega
      rw [if_pos hx0] at hR
      have hR := Lib.hid hR
      have hxl' : (x : Int) < 16 := by omega
      clear hn okx hr0 hr1 okr h3
      have h1 := h.on (balloc (Below.refl _ w) (.cells #[.int .i64 kind, .int .i64 (r : Int), .int .i64 bytes, .int .i64 n, .int .i64 (x : Int), .int .i64 scale, .string (St [])] 118))
      have X3 := Bx.new (w := w) (c := #[.int .i64 kind, .int .i64 (r : Int), .int .i64 bytes, .int .i64 n, .int .i64 (x : Int), .int .i64 scale, .string (St [])]) (T := 118)
      have hx3 := X3.cell
      have hml := h.box.lt
      have hm0 : (w.alloc (.cells #[.int .i64 kind, .int .i64 (r : Int), .int .i64 bytes, .int .i64 n, .int .i64 (x : Int), .int .i64 scale, .string (St [])] 118)).cell? ⟨L.mb, 0, none⟩ = some (.pointer (some ⟨L.p, 0, none⟩)) := by rw [h1.box.cell]; rfl
      obtain ⟨CB, hC⟩ := h1.code K
      obtain ⟨-, vl, xs, r1, r2, d, vsp, X1, -, -, -, MV, -, -, -⟩ := hC
      have hcx := X1.cell
      have hne : ¬ L.mb = w.heap.size := by omega
      have hreg := h1.reg hrl
      have hregx := h1.reg hxl2
      go_enter Tryz.func121, Tryz.ntmps121
      go_wp2_with fail
      go_quiet (fail)
      go_wp2_with fail
      go_quiet (fail)
      go_wp2_with fail
      go_ret
      exact ⟨by rw [← hR.out]; rfl, by (repeat' (first | with_reducible assumption | with_reducible exact Below.refl _ _ | (with_reducible refine below_drewN ?_ _) | (with_reducible refine Below.drew ?_) | (with_reducible refine balloc ?_ _) | (with_reducible refine Below.setCell ?_ (by first | exact Nat.le_refl _ | (simp; done) | omega | (simp; omega)) _) | (with_reducible refine bstep ?_ (by with_reducible assumption))))⟩
    · rw [if_neg hx0] at hR
      have hR := Lib.hid hR
      clear hn okx hr0 hr1 okr h3
      have h1 := h.on (balloc (Below.refl _ w) (.cells #[.int .i64 kind, .int .i64 (r : Int), .int .i64 bytes, .int .i64 n, .int .i64 x, .int .i64 scale, .string (St [])] 118))
      have X3 := Bx.new (w := w) (c := #[.int .i64 kind, .int .i64 (r : Int), .int .i64 bytes, .int .i64 n, .int .i64 x, .int .i64 scale, .string (St [])]) (T := 118)
      have hx3 := X3.cell
      have hml := h.box.lt
      have hm0 : (w.alloc (.cells #[.int .i64 kind, .int .i64 (r : Int), .int .i64 bytes, .int .i64 n, .int .i64 x, .int .i64 scale, .string (St [])] 118)).cell? ⟨L.mb, 0, none⟩ = some (.pointer (some ⟨L.p, 0, none⟩)) := by rw [h1.box.cell]; rfl
      obtain ⟨CB, hC⟩ := h1.code K
      obtain ⟨-, vl, xs, r1, r2, d, vsp, X1, -, -, -, MV, -, -, -⟩ := hC
      have hcx := X1.cell
      have hne : ¬ L.mb = w.heap.size := by omega
      have hreg := h1.reg hrl
      go_enter Tryz.func121, Tryz.ntmps121
      go_wp2_with fail
      go_quiet (fail)
      go_wp2_with fail
      go_ret
      exact ⟨by rw [← hR.out]; rfl, by (repeat' (first | with_reducible assumption | with_reducible exact Below.refl _ _ | (with_reducible refine below_drewN ?_ _) | (with_reducible refine Below.drew ?_) | (with_reducible refine balloc ?_ _) | (with_reducible refine Below.setCell ?_ (by first | exact Nat.le_refl _ | (simp; done) | omega | (simp; omega)) _) | (with_reducible refine bstep ?_ (by with_reducible assumption))))⟩
end Go.Proofs.YtfkfdffhajokkaaGreatDoor
/- How package x86's machine leaps, and pushes; conditions: a machine that lies in memory. -/
namespace Go.Proofs.YtfkfdffhajokkaaGreatDoor
open Go.RowKit X
set_option linter.unusedSimpArgs false
theorem MOk.setReg {C : Cd} {m : Mach} (h : MOk C m) (r : Nat) {v : Int} (hv : In64 v) : MOk C (X.setReg m r v) := by
  refine ⟨fun j hj => ?_, h.x, h.y, h.at0, h.at1, h.kind, h.code, h.least⟩
  unfold X.setReg upd
  simp only
  split
  · exact hv
  · exact h.regs j hj
set_option maxHeartbeats 1000000 in
set_option maxRecDepth 100000 in
theorem leap_any (w0 w : World) (L : Lay) (C : Cd) (m : Mach) (vi vo : Value) (K : LOk w0 L C) (h : MAt w0 w L C m vi vo) (tg : Int) :
    Calls Tryz.prog 88 #[.pointer (some ⟨L.mb, 0, none⟩), (.int .i64 tg)] w fun e w' => DoRet w0 w L C vi vo e w' (X.leap C m tg) := by
  obtain ⟨R, hR⟩ : ∃ R, X.leap C m tg = R := ⟨_, rfl⟩
  rw [hR]
  unfold X.leap at hR
  obtain ⟨k, hk⟩ : ∃ k, wrap64 (tg - 268435456) = k := ⟨_, rfl⟩
  rw [hk] at hR
  obtain ⟨CB, hC⟩ := h.code K
  obtain ⟨-, vl, xs, r1, r2, d, vsp, X1, X2, -, -, -, -, -, -⟩ := hC
  obtain ⟨adl, capl, rfl, -⟩ := ownsRow_at X2
  have hcx := X1.cell
  have hx := h.box.cell
  have hf := h.box.frozen
  have hln := K.lines
  have HE := Lib.hid (end_any w0 w L C m vi vo K h 5 0 (by omega))
  by_cases h0 : k < 0
  · have hR := Lib.hid (show halt m 5 0 = R by rw [← hR, if_pos (.inl h0)])
    go_enter Tryz.func88, Tryz.ntmps88
    go_wp2_with fail
    refine (HE.out).mono ?_
    rintro e w2 ⟨rfl, hM2, hK2⟩
    go_wp2_with fail
    refine bodyPost_ret (v := .tuple #[]) (by simp [results, Tryz.results88, go_sem]) rfl ?_
    rw [← hR.out]
    exact ⟨rfl, hM2, hK2⟩
  · by_cases h1 : (C.lines.length : Int) ≤ k
    · have hR := Lib.hid (show halt m 5 0 = R by rw [← hR, if_pos (.inr h1)])
      go_enter Tryz.func88, Tryz.ntmps88
      go_wp2_with fail
      refine (HE.out).mono ?_
      rintro e w2 ⟨rfl, hM2, hK2⟩
      go_wp2_with fail
      refine bodyPost_ret (v := .tuple #[]) (by simp [results, Tryz.results88, go_sem]) rfl ?_
      rw [← hR.out]
      exact ⟨rfl, hM2, hK2⟩
    · have hR := Lib.hid (show { m with at_ := k } = R by rw [← hR, if_neg (by omega)])
      have A1 := h.put (m' := { m with at_ := k }) K 17 (.int .i64 k) rfl h.inp rfl rfl rfl rfl ⟨h.ok.regs, h.ok.x, h.ok.y, by simp only; omega, by simp only; omega, h.ok.kind, h.ok.code, h.ok.least⟩
      have A1 := Lib.hid A1
      go_enter Tryz.func88, Tryz.ntmps88
      go_wp2_with fail
      refine bodyPost_end (v := .tuple #[]) (by simp [results, Tryz.results88, go_sem]) rfl ?_
      rw [← hR.out]
      exact ⟨rfl, A1.out, Kp.putM L.mb_S _ _⟩
set_option maxHeartbeats 1000000 in
set_option maxRecDepth 100000 in
theorem push_any (w0 w : World) (L : Lay) (C : Cd) (m : Mach) (vi vo : Value) (K : LOk w0 L C) (h : MAt w0 w L C m vi vo) (n : Int) :
    Calls Tryz.prog 53 #[.pointer (some ⟨L.mb, 0, none⟩), .int .i64 n] w fun e w' => DoRet w0 w L C vi vo e w' (X.push C m n) := by
  obtain ⟨R, hR⟩ : ∃ R, X.push C m n = R := ⟨_, rfl⟩
  rw [hR]
  unfold X.push at hR
  have hx := h.box.cell
  have hf := h.box.frozen
  obtain ⟨k, hk⟩ : ∃ k, wrap64 (m.regs 7 - 8) = k := ⟨_, rfl⟩
  rw [hk] at hR
  have hk64 : In64 k := by rw [← hk]; exact In64.wrap _
  have A1 := h.put (m' := setReg m 7 k) K 8 (.int .i64 k) rfl h.inp rfl rfl rfl rfl (h.ok.setReg 7 hk64)
  have hx1 := A1.box.cell
  have HS := fun w h => Lib.hid (store_any w0 w L C (setReg m 7 k) vi vo K h k n 8 hk64 (by decide))
  have A1 := Lib.hid A1
  go_enter Tryz.func53, Tryz.ntmps53
  go_wp2_with fail
  go_region
  go_wp2_with fail
  refine ((HS _ (A1.out.on (Below.drew (Below.refl _ _)))).out).mono ?_
  rintro e w2 ⟨rfl, hM2, hK2⟩
  go_wp2_with fail
  refine bodyPost_end (v := .tuple #[]) (by simp [results, Tryz.results53, go_sem]) rfl ?_
  rw [← hR]
  exact ⟨rfl, hM2, ((Kp.putM L.mb_S _ _).drew).trans hK2⟩
set_option maxHeartbeats 1000000 in
set_option maxRecDepth 100000 in
/-- The address that a jump leads to. -/
theorem target_any (w0 w : World) (L : Lay) (C : Cd) (m : Mach) (vi vo : Value) (K : LOk w0 L C) (h : MAt w0 w L C m vi vo) (o : Opd) (ok : OpOk o) (h3 : o.kind ≠ 3) :
    Calls Tryz.prog 120 #[.pointer (some ⟨L.mb, 0, none⟩), Ov o] w fun e w' => e = .returned (.int .i64 (X.target C m o)) ∧ Below w.heap.size w w' := by
  obtain ⟨kind, reg, bytes, n, x, scale, name⟩ := o
  obtain ⟨okr, okx, okn, oks⟩ := ok
  simp only at okr okx okn oks h3
  obtain ⟨R, hR⟩ : ∃ R, X.target C m ⟨kind, reg, bytes, n, x, scale, name⟩ = R := ⟨_, rfl⟩
  rw [hR]
  unfold X.target at hR
  simp only at hR
  obtain ⟨hr0, hr1⟩ := okr (.inl h3)
  obtain ⟨r, rfl⟩ : ∃ r : Nat, reg = r := ⟨reg.toNat, by omega⟩
  have hrl : r < 16 := by omega
  have hrl' : (r : Int) < 16 := by omega
  clear okr hr0 hr1 okx okn oks
  by_cases h5 : kind = 5
  · have t5 : (kind == 5) = true := beq_iff_eq.2 h5
    have hR := Lib.hid (show m.regs r = R by rw [← hR, if_pos h5]; rfl)
    clear h5 h3
    have h1 := h.on (balloc (Below.refl _ w) (.cells #[.int .i64 kind, .int .i64 (r : Int), .int .i64 bytes, .int .i64 n, .int .i64 x, .int .i64 scale, .string (St name)] 118))
    have X3 := Bx.new (w := w) (c := #[.int .i64 kind, .int .i64 (r : Int), .int .i64 bytes, .int .i64 n, .int .i64 x, .int .i64 scale, .string (St name)]) (T := 118)
    have hx3 := X3.cell
    have hml := h.box.lt
    have hm0 : (w.alloc (.cells #[.int .i64 kind, .int .i64 (r : Int), .int .i64 bytes, .int .i64 n, .int .i64 x, .int .i64 scale, .string (St name)] 118)).cell? ⟨L.mb, 0, none⟩ = some (.pointer (some ⟨L.p, 0, none⟩)) := by rw [h1.box.cell]; rfl
    obtain ⟨CB, hC⟩ := h1.code K
    obtain ⟨-, vl, xs, r1, r2, d, vsp, X1, -, -, ML, -, -, -, -⟩ := hC
    have hcx := X1.cell
    have hne : ¬ L.mb = w.heap.size := by omega
    have hreg := h1.reg hrl
    go_enter Tryz.func120, Tryz.ntmps120
    go_wp2_with fail
    go_quiet (fail)
    go_wp2_with fail
    go_ret
    exact ⟨by rw [← hR.out]; rfl, by (repeat' (first | with_reducible assumption | with_reducible exact Below.refl _ _ | (with_reducible refine below_drewN ?_ _) | (with_reducible refine Below.drew ?_) | (with_reducible refine balloc ?_ _) | (with_reducible refine Below.setCell ?_ (by first | exact Nat.le_refl _ | (simp; done) | omega | (simp; omega)) _) | (with_reducible refine bstep ?_ (by with_reducible assumption))))⟩
  · have t5 : (kind == 5) = false := beq_f h5
    have hR := Lib.hid (show 268435456 + (C.labels.lookup name).getD 0 = R by rw [← hR, if_neg h5])
    clear h5 h3
    have h1 := h.on (balloc (Below.refl _ w) (.cells #[.int .i64 kind, .int .i64 (r : Int), .int .i64 bytes, .int .i64 n, .int .i64 x, .int .i64 scale, .string (St name)] 118))
    have X3 := Bx.new (w := w) (c := #[.int .i64 kind, .int .i64 (r : Int), .int .i64 bytes, .int .i64 n, .int .i64 x, .int .i64 scale, .string (St name)]) (T := 118)
    have hx3 := X3.cell
    have hml := h.box.lt
    have hm0 : (w.alloc (.cells #[.int .i64 kind, .int .i64 (r : Int), .int .i64 bytes, .int .i64 n, .int .i64 x, .int .i64 scale, .string (St name)] 118)).cell? ⟨L.mb, 0, none⟩ = some (.pointer (some ⟨L.p, 0, none⟩)) := by rw [h1.box.cell]; rfl
    obtain ⟨CB, hC⟩ := h1.code K
    obtain ⟨-, vl, xs, r1, r2, d, vsp, X1, -, -, ML, -, -, -, -⟩ := hC
    have hcx := X1.cell
    have hne : ¬ L.mb = w.heap.size := by omega
    have hlb : 0 ≤ (C.labels.lookup name).getD 0 ∧ (C.labels.lookup name).getD 0 ≤ 4294967296 := by
      cases hl : C.labels.lookup name with
      | none => simp
      | some v => exact K.labs name v hl
    have hV := lab_run1 (w := (w.alloc (.cells #[.int .i64 kind, .int .i64 (r : Int), .int .i64 bytes, .int .i64 n, .int .i64 x, .int .i64 scale, .string (St name)] 118)).drew) ML (St name)
    have hV2 := fun k => lab_run1 (w := (w.alloc (.cells #[.int .i64 kind, .int .i64 (r : Int), .int .i64 bytes, .int .i64 n, .int .i64 x, .int .i64 scale, .string (St name)] 118)).drewN k) ML (St name)
    rw [bl_St] at hV hV2
    go_enter Tryz.func120, Tryz.ntmps120
    go_wp2_with fail
    go_quiet (fail)
    go_wp2_with fail
    go_ret
    exact ⟨by rw [← hR.out]; rfl, by (repeat' (first | with_reducible assumption | with_reducible exact Below.refl _ _ | (with_reducible refine below_drewN ?_ _) | (with_reducible refine Below.drew ?_) | (with_reducible refine balloc ?_ _) | (with_reducible refine Below.setCell ?_ (by first | exact Nat.le_refl _ | (simp; done) | omega | (simp; omega)) _) | (with_reducible refine bstep ?_ (by with_reducible assumption))))⟩
end Go.Proofs.YtfkfdffhajokkaaGreatDoor
