/- How package x86's machine lies in memory; and what its end of a run answers; conditions: a machine that lies so. -/
import Derived.Test.YtfkfdffhajokkaaGreatDoorA01
import Derived.Test.YtfkfdffhajokkaaGreatDoorA19
import Derived.Deep.LoopGhost
namespace Go.Proofs.YtfkfdffhajokkaaGreatDoor
open Go.RowKit X
set_option linter.unusedSimpArgs false
/-- The machine's cells. -/
abbrev mcells (p : Nat) (m : Mach) (vd vs vi vo : Value) : Array Value :=
  #[.pointer (some ⟨p, 0, none⟩), .int .i64 (m.regs 0), .int .i64 (m.regs 1), .int .i64 (m.regs 2), .int .i64 (m.regs 3), .int .i64 (m.regs 4), .int .i64 (m.regs 5), .int .i64 (m.regs 6), .int .i64 (m.regs 7),
    .int .i64 (m.regs 8), .int .i64 (m.regs 9), .int .i64 (m.regs 10), .int .i64 (m.regs 11), .int .i64 (m.regs 12), .int .i64 (m.regs 13), .int .i64 (m.regs 14), .int .i64 (m.regs 15),
    .int .i64 m.at_, vd, vs, .int .i64 m.x, .int .i64 m.y, .bool m.compared, vi, .int .i64 m.kind, .int .i64 m.code, vo, .int .i64 m.least]
/-- n bytes in a row that begins a block. -/
def ByteRow (w : World) (ad : Option Addr) (n : Nat) (f : Nat → UInt8) : Prop :=
  0 < n → ∃ b cur, ad = some ⟨b, 0, none⟩ ∧ Bx w b cur 5 ∧ n ≤ cur.size ∧ ∀ i, i < n → cur[i]? = some (.int .u8 ((f i).toNat : Int))
/-- n bytes to be read. -/
def InAt (w : World) (vi : Value) (l : List UInt8) : Prop :=
  ∃ ad cap, vi = .slice ad l.length cap ∧ l.length ≤ cap ∧ (0 < l.length → ∃ b o, ad = some ⟨b, o, none⟩ ∧ ∀ i, i < l.length → w.cell? ⟨b, o + i, none⟩ = some (.int .u8 ((l.getD i 0).toNat : Int)))
/-- Where a machine's parts lie. -/
structure Lay where
  mb : Nat
  p : Nat
  ad : Option Addr
  dcap : Nat
  sb : Nat
  sN : Nat
  B : Nat
/-- The blocks of a machine that its functions turn. -/
def Lay.S (L : Lay) : List Nat := L.mb :: L.sb :: (match L.ad with | some a => [a.block] | none => [])
structure MOk (C : Cd) (m : Mach) : Prop where
  regs : ∀ r, r < 16 → In64 (m.regs r)
  x : In64 m.x
  y : In64 m.y
  at0 : 0 ≤ m.at_
  at1 : m.at_ ≤ C.lines.length
  kind : 0 ≤ m.kind ∧ m.kind ≤ 5
  code : 0 ≤ m.code ∧ m.code ≤ 255
  least : In64 m.least
/-- A machine in memory, run since world w0. -/
structure MAt (w0 w : World) (L : Lay) (C : Cd) (m : Mach) (vi vo : Value) : Prop where
  below : Below w0.heap.size w0 w
  box : Bx w L.mb (mcells L.p m (.slice L.ad C.data.length L.dcap) (.slice (some ⟨L.sb, 0, none⟩) L.sN L.sN) vi vo) 88
  data : ByteRow w L.ad C.data.length m.data
  stack : ByteRow w (some ⟨L.sb, 0, none⟩) L.sN m.stack
  inp : InAt w0 vi m.input
  out : w.ownsRow L.B 5 1 vo m.out.length (m.out.map fun b => .int .u8 (b.toNat : Int))
  ok : MOk C m
  sN : m.sN = L.sN
  hi : L.B ≤ w.heap.size
/-- How a machine's parts lie to each other. -/
structure LOk (w0 : World) (L : Lay) (C : Cd) : Prop where
  mb : w0.heap.size ≤ L.mb
  sb : w0.heap.size ≤ L.sb
  ad : ∀ a, L.ad = some a → w0.heap.size ≤ a.block ∧ a.block ≠ L.sb ∧ a.block < L.B
  sB : L.sb < L.B
  s0 : 0 < L.sN
  s1 : L.sN ≤ 1048576
  cap : C.data.length ≤ L.dcap
  dat : C.data.length ≤ 1099511627776
  env : Env w0
  code : ∃ B, CodeAt w0 B L.p C
  spans : ∀ v ∈ C.spans, 1 ≤ v.1 ∧ v.1 ≤ 65536 ∧ 65536 ≤ v.2 ∧ v.2 + v.1 ≤ 65536 + C.data.length
  labs : ∀ n v, C.labels.lookup n = some v → 0 ≤ v ∧ v ≤ 4294967296
  vars : ∀ n v, C.vars.lookup n = some v → 1 ≤ v.1 ∧ v.1 ≤ 65536 ∧ 65536 ≤ v.2 ∧ v.2 + v.1 ≤ 65536 + C.data.length
  lines : C.lines.length ≤ 1048576
  nspans : C.spans.length ≤ 1048576
theorem ByteRow.of_block {w w' : World} {ad : Option Addr} {n : Nat} {f : Nat → UInt8} (h : ByteRow w ad n f) (hb : ∀ a c, ad = some a → Bx w a.block c 5 → w'.heap[a.block]? = w.heap[a.block]?) : ByteRow w' ad n f := fun hn => by
  obtain ⟨b, cur, rfl, hx, r⟩ := h hn
  exact ⟨b, cur, rfl, hx.of_block (hb ⟨b, 0, none⟩ cur rfl hx), r⟩
theorem MAt.on {w0 w w' : World} {L : Lay} {C : Cd} {m : Mach} {vi vo : Value} (h : MAt w0 w L C m vi vo) (hb : Below w.heap.size w w') : MAt w0 w' L C m vi vo :=
  ⟨h.below.trans ⟨hb.os, hb.tape, hb.output, hb.size, fun k hk => hb.block k (Nat.lt_of_lt_of_le hk h.below.size)⟩, h.box.below hb, h.data.of_block fun _ _ _ hx => hb.block _ hx.lt, h.stack.of_block fun _ _ _ hx => hb.block _ hx.lt, h.inp, ownsRow_below h.out hb, h.ok, h.sN, Nat.le_trans h.hi hb.size⟩
/-- A store into the machine itself. -/
theorem MAt.put {w0 w : World} {L : Lay} {C : Cd} {m m' : Mach} {vi vi' vo : Value} (h : MAt w0 w L C m vi vo) (K : LOk w0 L C) (i : Nat) (v : Value)
    (hc : (mcells L.p m (.slice L.ad C.data.length L.dcap) (.slice (some ⟨L.sb, 0, none⟩) L.sN L.sN) vi vo).setIfInBounds i v = mcells L.p m' (.slice L.ad C.data.length L.dcap) (.slice (some ⟨L.sb, 0, none⟩) L.sN L.sN) vi' vo)
    (hi : InAt w0 vi' m'.input) (hd : m'.data = m.data) (hs : m'.stack = m.stack) (hn : m'.sN = m.sN) (ho : m'.out = m.out) (ok : MOk C m') : MAt w0 (w.setCell ⟨L.mb, i, none⟩ v) L C m' vi' vo := by
  have hne : ∀ k, k ≠ L.mb → (w.setCell ⟨L.mb, i, none⟩ v).heap[k]? = w.heap[k]? := fun k hk => Below.heap_setCell w ⟨L.mb, i, none⟩ v k hk
  refine ⟨?_, by rw [← hc]; exact h.box.set, ?_, ?_, hi, ?_, ok, by rw [hn]; exact h.sN, by rw [size_setCell]; exact h.hi⟩
  · exact h.below.trans ⟨rfl, rfl, rfl, by rw [size_setCell]; exact Nat.le_refl _, fun k hk => hne k (by have := K.mb; omega)⟩
  · rw [hd]; exact h.data.of_block fun a c _ hx => hne _ (hx.ne h.box (by decide))
  · rw [hs]; exact h.stack.of_block fun a c _ hx => hne _ (hx.ne h.box (by decide))
  · rw [ho]; exact ownsRow_of_block h.out fun k hk => hne k (h.box.ne_row h.out (by decide) k hk)
theorem Kp.putM {w : World} {L : Lay} {S : List Nat} (hS : L.mb ∈ S) (i : Nat) (v : Value) : Kp S w (w.setCell ⟨L.mb, i, none⟩ v) := (Kp.refl S w).setCell v (.inl hS)
theorem Lay.mb_S (L : Lay) : L.mb ∈ L.S := by simp [Lay.S]
theorem InAt.same {w0 : World} {vi : Value} {l : List UInt8} (h : InAt w0 vi l) : InAt w0 vi l := h
theorem and255 (n : Int) : 0 ≤ Go.bits .and .i64 n 255 ∧ Go.bits .and .i64 n 255 ≤ 255 := by
  have e : Go.bits .and .i64 n 255 = IntKind.i64.wrap ((BitVec.ofInt 64 n &&& BitVec.ofInt 64 255).toNat : Int) := rfl
  rw [e, BitVec.toNat_and, BitVec.toNat_ofInt, BitVec.toNat_ofInt]
  rw [show ((255 : Int) % (2 ^ 64 : Nat)).toNat = 2 ^ 8 - 1 from rfl, Nat.and_two_pow_sub_one_eq_mod]
  rw [IntKind.wrap_i64]
  omega
set_option maxRecDepth 100000 in
theorem end_any (w0 w : World) (L : Lay) (C : Cd) (m : Mach) (vi vo : Value) (K : LOk w0 L C) (h : MAt w0 w L C m vi vo) (kind code : Int) (hk : 0 ≤ kind ∧ kind ≤ 5) :
    Calls Tryz.prog 54 #[.pointer (some ⟨L.mb, 0, none⟩), .int .i64 kind, .int .i64 code] w fun e w' => e = .returned (.tuple #[]) ∧ MAt w0 w' L C (halt m kind code) vi vo ∧ Kp L.S w w' := by
  have hx := h.box.cell
  have hf := h.box.frozen
  by_cases h0 : m.kind = 0
  · have h0' : (m.kind == 0) = true := beq_iff_eq.2 h0
    by_cases h1 : kind = 1
    · subst h1
      have hh : halt m 1 code = { m with kind := 1, code := Go.bits .and .i64 code 255 } := by unfold halt; rw [if_neg (by simp [h0])]; rfl
      rw [hh]
      have A1 := h.put (m' := { m with kind := 1 }) K 24 (.int .i64 1) rfl h.inp rfl rfl rfl rfl ⟨h.ok.regs, h.ok.x, h.ok.y, h.ok.at0, h.ok.at1, by simp, h.ok.code, h.ok.least⟩
      have hb255 := and255 code
      have A2 := A1.put (m' := { m with kind := 1, code := Go.bits .and .i64 code 255 }) K 25 (.int .i64 (Go.bits .and .i64 code 255)) rfl h.inp rfl rfl rfl rfl ⟨h.ok.regs, h.ok.x, h.ok.y, h.ok.at0, h.ok.at1, by simp, hb255, h.ok.least⟩
      have A2 := Lib.hid A2
      clear A1 hh hb255
      go_enter Tryz.func54, Tryz.ntmps54
      go_wp2_with fail
      exact bodyPost_end (v := .tuple #[]) (by simp [results, Tryz.results54, go_sem]) rfl ⟨rfl, A2.out, (Kp.putM L.mb_S _ _).setCell _ (.inl L.mb_S)⟩
    · have h1' : (kind == 1) = false := beq_f h1
      have hh : halt m kind code = { m with kind := kind } := by unfold halt; rw [if_neg (by simp [h0]), if_neg h1]
      rw [hh]
      have A1 := h.put (m' := { m with kind := kind }) K 24 (.int .i64 kind) rfl h.inp rfl rfl rfl rfl ⟨h.ok.regs, h.ok.x, h.ok.y, h.ok.at0, h.ok.at1, hk, h.ok.code, h.ok.least⟩
      have A1 := Lib.hid A1
      clear hh
      go_enter Tryz.func54, Tryz.ntmps54
      go_wp2_with fail
      exact bodyPost_end (v := .tuple #[]) (by simp [results, Tryz.results54, go_sem]) rfl ⟨rfl, A1.out, Kp.putM L.mb_S _ _⟩
  · have hh : halt m kind code = m := by unfold halt; rw [if_pos h0]
    rw [hh]
    have h0' : (m.kind == 0) = false := beq_f h0
    clear hh
    go_enter Tryz.func54, Tryz.ntmps54
    go_wp2_with fail
    exact bodyPost_ret (v := .tuple #[]) (by simp [results, Tryz.results54, go_sem]) rfl ⟨rfl, h, Kp.refl _ _⟩
end Go.Proofs.YtfkfdffhajokkaaGreatDoor
/- Which bytes package x86's machine finds at an address; conditions: a machine that lies in memory. -/
namespace Go.Proofs.YtfkfdffhajokkaaGreatDoor
open Go.RowKit X
set_option linter.unusedSimpArgs false
theorem CodeAt.below {w w' : World} {B p : Nat} {C : Cd} (h : CodeAt w B p C) (hb : Below w.heap.size w w') : CodeAt w' B p C := by
  obtain ⟨lo, vl, xs, r1, r2, d, vs, h1, h2, h3, h4, h5, h6, h7, h8⟩ := h
  exact ⟨lo, vl, xs, r1, r2, d, vs, h1.below hb, ownsRow_below h2 hb, h3.below hb, h4.below hb, h5.below hb, h6.below hb, ownsRow_below h7 hb, h8⟩
theorem span_cells {l : List (Int × Int)} {i : Nat} (hi : i < l.length) : (spanFlat l)[i * 2]? = some (.int .i64 (l.getD i (0, 0)).1) ∧ (spanFlat l)[i * 2 + 1]? = some (.int .i64 (l.getD i (0, 0)).2) := by
  induction l generalizing i with
  | nil => simp at hi
  | cons v l ih =>
    have e : spanFlat (v :: l) = .int .i64 v.1 :: .int .i64 v.2 :: spanFlat l := rfl
    rw [e]
    cases i with
    | zero => exact ⟨rfl, rfl⟩
    | succ i =>
      rw [List.length_cons] at hi
      rw [show (i + 1) * 2 = i * 2 + 1 + 1 by omega, show i * 2 + 1 + 1 + 1 = (i * 2 + 1) + 1 + 1 by omega]
      simp only [List.getElem?_cons_succ, List.getD_cons_succ]
      exact ih (by omega)
/-- What the machine's bytes answer. -/
def BytRet (w0 w : World) (L : Lay) (C : Cd) (m : Mach) (vi vo : Value) (n : Nat) (e : Ending) (w' : World) : Option X.Loc → Prop
  | some (.stack o) => ∃ cap, e = .returned (.slice (some ⟨L.sb, o, none⟩) n cap) ∧ o + n ≤ L.sN ∧ Below w.heap.size w w'
  | some (.data o) => ∃ b cap, L.ad = some ⟨b, 0, none⟩ ∧ e = .returned (.slice (some ⟨b, o, none⟩) n cap) ∧ o + n ≤ C.data.length ∧ Below w.heap.size w w'
  | none => e = .returned (.slice none 0 0) ∧ MAt w0 w' L C (halt m 5 0) vi vo ∧ Kp L.S w w'
set_option maxHeartbeats 1000000 in
set_option maxRecDepth 100000 in
theorem bytes_any (w0 w : World) (L : Lay) (C : Cd) (m : Mach) (vi vo : Value) (K : LOk w0 L C) (h : MAt w0 w L C m vi vo) (a : Int) (n : Nat) (ha : In64 a) (hn : 1 ≤ n ∧ n ≤ 8) :
    Calls Tryz.prog 111 #[.pointer (some ⟨L.mb, 0, none⟩), .int .i64 a, .int .i64 n] w fun e w' => BytRet w0 w L C m vi vo n e w' (locate C m a n) := by
  obtain ⟨Z, hZ⟩ : ∃ Z, locate C m a n = Z := ⟨_, rfl⟩
  rw [hZ]
  unfold locate at hZ
  rw [h.sN] at hZ
  have hs0 := K.s0
  have hs1 := K.s1
  have hx := h.box.cell
  have hf := h.box.frozen
  unfold In64 at ha
  by_cases h1 : 16777216 - (L.sN : Int) ≤ a
  · by_cases h2 : a ≤ 16777216 - (n : Int)
    · rw [if_pos ⟨h1, h2⟩] at hZ
      obtain ⟨o, ho⟩ : ∃ o : Nat, a - (16777216 - (L.sN : Int)) = o := ⟨(a - (16777216 - (L.sN : Int))).toNat, by omega⟩
      have hZ := Lib.hid (show Z = some (.stack o) by rw [← hZ, ho]; rfl)
      have hl1 : (o : Int) ≤ (o : Int) + n := by omega
      have hl2 : o + n ≤ L.sN := by omega
      go_enter Tryz.func111, Tryz.ntmps111
      go_wp2_with fail
      go_ret
      rw [hZ.out]
      exact ⟨_, by rw [Nat.add_sub_cancel_left]; rfl, hl2, Below.refl _ _⟩
    · rw [if_neg (fun h => h2 h.2)] at hZ
      have hZ := Lib.hid hZ
      obtain ⟨CB, hC⟩ := K.code
      have hC := hC.below h.below
      obtain ⟨-, vl, xs, r1, r2, d, vsp, X1, -, -, -, -, -, R7, -⟩ := hC
      have hcx := X1.cell
      obtain ⟨ads, caps, rfl, -⟩ := ownsRow_at R7
      have hsp := Lib.hid K.spans
      have hns := K.nspans
      have hdat := K.dat
      have hcap := K.cap
      go_enter Tryz.func111, Tryz.ntmps111
      go_wp2_with fail
      go_loopg [47] (C.spans.length + 1) (fun q v wr => ∃ i : Nat, v = .int .i64 i ∧ i ≤ C.spans.length ∧ q + i = C.spans.length + 1 ∧ Below w.heap.size w wr ∧ Hid ((if (C.spans.drop i).any (inSpan a n) then some (X.Loc.data (a - 65536).toNat) else none) = Z))
      case atStart => exact ⟨0, rfl, by omega, rfl, Below.refl _ _, hZ⟩
      case round =>
        obtain ⟨i, rfl, hi, hq, hB, hg⟩ := hrel
        clear hZ
        have hM := h.on hB
        have hmx := hM.box.cell
        have hml := hM.box.lt
        clear hx hf
        by_cases hlt : i < C.spans.length
        · obtain ⟨v, hv⟩ : ∃ v, C.spans.getD i (0, 0) = v := ⟨_, rfl⟩
          have hvm : v ∈ C.spans := by rw [← hv, List.getD_eq_getElem?_getD, List.getElem?_eq_getElem hlt]; simp
          obtain ⟨s1, s2, s3, s4⟩ := hsp.out v hvm
          obtain ⟨vs, va⟩ := v
          simp only at s1 s2 s3 s4
          obtain ⟨g, capg, hge, -, -, hgc⟩ := ownsRow_cell R7 (by omega)
          cases hge
          have hsc := span_cells hlt
          rw [hv] at hsc
          have c1 : wr.cell? ⟨g, i * 2, none⟩ = some (.int .i64 vs) := cell_below hB (by rw [hgc (i * 2) (by omega)]; exact hsc.1)
          have c2 : wr.cell? ⟨g, i * 2 + 1, none⟩ = some (.int .i64 va) := cell_below hB (by rw [hgc (i * 2 + 1) (by omega)]; exact hsc.2)
          have hg2 := hg.out
          rw [drop_getD' (0, 0) C.spans i hlt, hv, List.any_cons] at hg2
          clear hv hvm hgc hsc hg
          by_cases b1 : va ≤ a
          · by_cases b2 : a ≤ va + vs - (n : Int)
            · have hb : inSpan a n (vs, va) = true := by unfold inSpan; simp [b1, b2]
              have hZ2 := Lib.hid (show Z = some (.data (a - 65536).toNat) by rw [← hg2, hb]; rfl)
              obtain ⟨o, ho⟩ : ∃ o : Nat, a - 65536 = o := ⟨(a - 65536).toNat, by omega⟩
              obtain ⟨db, cur, had, -⟩ := h.data (by omega)
              rw [had] at hmx
              have hl1 : (o : Int) ≤ (o : Int) + n := by omega
              have hl2 : o + n ≤ C.data.length := by omega
              have hl3 : o + n ≤ L.dcap := by omega
              clear hg2 hb hcx
              go_wp2_with fail
              go_ret
              rw [hZ2.out]
              have e : (a - 65536).toNat = o := by omega
              rw [e]
              exact ⟨db, _, had, by rw [Nat.add_sub_cancel_left]; rfl, hl2, by (repeat' (first | with_reducible assumption | with_reducible exact Below.refl _ _ | (with_reducible refine below_drewN ?_ _) | (with_reducible refine Below.drew ?_) | (with_reducible refine balloc ?_ _) | (with_reducible refine Below.setCell ?_ (by first | exact Nat.le_refl _ | (simp; done) | omega | (simp; omega)) _) | (with_reducible refine bstep ?_ (by with_reducible assumption))))⟩
            · have hb : inSpan a n (vs, va) = false := by unfold inSpan; simp [b1, b2]
              rw [hb, Bool.false_or] at hg2
              have hg2 := Lib.hid hg2
              clear hb hcx
              go_wp2_with fail
              go_roundg (gk - 1)
              case measure => omega
              case rel => exact ⟨i + 1, rfl, by omega, by omega, by (repeat' (first | with_reducible assumption | with_reducible exact Below.refl _ _ | (with_reducible refine below_drewN ?_ _) | (with_reducible refine Below.drew ?_) | (with_reducible refine balloc ?_ _) | (with_reducible refine Below.setCell ?_ (by first | exact Nat.le_refl _ | (simp; done) | omega | (simp; omega)) _) | (with_reducible refine bstep ?_ (by with_reducible assumption)))), hg2⟩
          · have hb : inSpan a n (vs, va) = false := by unfold inSpan; simp [b1]
            rw [hb, Bool.false_or] at hg2
            have hg2 := Lib.hid hg2
            clear hb hcx
            go_wp2_with fail
            go_roundg (gk - 1)
            case measure => omega
            case rel => exact ⟨i + 1, rfl, by omega, by omega, by (repeat' (first | with_reducible assumption | with_reducible exact Below.refl _ _ | (with_reducible refine below_drewN ?_ _) | (with_reducible refine Below.drew ?_) | (with_reducible refine balloc ?_ _) | (with_reducible refine Below.setCell ?_ (by first | exact Nat.le_refl _ | (simp; done) | omega | (simp; omega)) _) | (with_reducible refine bstep ?_ (by with_reducible assumption)))), hg2⟩
        · obtain rfl : i = C.spans.length := by omega
          have hZ2 := Lib.hid (show Z = none by rw [← hg.out, List.drop_length]; rfl)
          have HE := Lib.hid (end_any w0 wr L C m vi vo K hM 5 0 (by omega))
          clear hg hcx
          go_wp2_with fail
          refine (HE.out).mono ?_
          rintro e w2 ⟨rfl, hM2, hK2⟩
          go_wp2_with fail
          go_ret
          rw [hZ2.out]
          exact ⟨rfl, hM2, (Kp.of_below hB).trans hK2⟩
  · rw [if_neg (fun h => h1 h.1)] at hZ
    have hZ := Lib.hid hZ
    obtain ⟨CB, hC⟩ := K.code
    have hC := hC.below h.below
    obtain ⟨-, vl, xs, r1, r2, d, vsp, X1, -, -, -, -, -, R7, -⟩ := hC
    have hcx := X1.cell
    obtain ⟨ads, caps, rfl, -⟩ := ownsRow_at R7
    have hsp := Lib.hid K.spans
    have hns := K.nspans
    have hdat := K.dat
    have hcap := K.cap
    go_enter Tryz.func111, Tryz.ntmps111
    go_wp2_with fail
    go_loopg [47] (C.spans.length + 1) (fun q v wr => ∃ i : Nat, v = .int .i64 i ∧ i ≤ C.spans.length ∧ q + i = C.spans.length + 1 ∧ Below w.heap.size w wr ∧ Hid ((if (C.spans.drop i).any (inSpan a n) then some (X.Loc.data (a - 65536).toNat) else none) = Z))
    case atStart => exact ⟨0, rfl, by omega, rfl, Below.refl _ _, hZ⟩
    case round =>
      obtain ⟨i, rfl, hi, hq, hB, hg⟩ := hrel
      clear hZ
      have hM := h.on hB
      have hmx := hM.box.cell
      have hml := hM.box.lt
      clear hx hf
      by_cases hlt : i < C.spans.length
      · obtain ⟨v, hv⟩ : ∃ v, C.spans.getD i (0, 0) = v := ⟨_, rfl⟩
        have hvm : v ∈ C.spans := by rw [← hv, List.getD_eq_getElem?_getD, List.getElem?_eq_getElem hlt]; simp
        obtain ⟨s1, s2, s3, s4⟩ := hsp.out v hvm
        obtain ⟨vs, va⟩ := v
        simp only at s1 s2 s3 s4
        obtain ⟨g, capg, hge, -, -, hgc⟩ := ownsRow_cell R7 (by omega)
        cases hge
        have hsc := span_cells hlt
        rw [hv] at hsc
        have c1 : wr.cell? ⟨g, i * 2, none⟩ = some (.int .i64 vs) := cell_below hB (by rw [hgc (i * 2) (by omega)]; exact hsc.1)
        have c2 : wr.cell? ⟨g, i * 2 + 1, none⟩ = some (.int .i64 va) := cell_below hB (by rw [hgc (i * 2 + 1) (by omega)]; exact hsc.2)
        have hg2 := hg.out
        rw [drop_getD' (0, 0) C.spans i hlt, hv, List.any_cons] at hg2
        clear hv hvm hgc hsc hg
        by_cases b1 : va ≤ a
        · by_cases b2 : a ≤ va + vs - (n : Int)
          · have hb : inSpan a n (vs, va) = true := by unfold inSpan; simp [b1, b2]
            have hZ2 := Lib.hid (show Z = some (.data (a - 65536).toNat) by rw [← hg2, hb]; rfl)
            obtain ⟨o, ho⟩ : ∃ o : Nat, a - 65536 = o := ⟨(a - 65536).toNat, by omega⟩
            obtain ⟨db, cur, had, -⟩ := h.data (by omega)
            rw [had] at hmx
            have hl1 : (o : Int) ≤ (o : Int) + n := by omega
            have hl2 : o + n ≤ C.data.length := by omega
            have hl3 : o + n ≤ L.dcap := by omega
            clear hg2 hb hcx
            go_wp2_with fail
            go_ret
            rw [hZ2.out]
            have e : (a - 65536).toNat = o := by omega
            rw [e]
            exact ⟨db, _, had, by rw [Nat.add_sub_cancel_left]; rfl, hl2, by (repeat' (first | with_reducible assumption | with_reducible exact Below.refl _ _ | (with_reducible refine below_drewN ?_ _) | (with_reducible refine Below.drew ?_) | (with_reducible refine balloc ?_ _) | (with_reducible refine Below.setCell ?_ (by first | exact Nat.le_refl _ | (simp; done) | omega | (simp; omega)) _) | (with_reducible refine bstep ?_ (by with_reducible assumption))))⟩
          · have hb : inSpan a n (vs, va) = false := by unfold inSpan; simp [b1, b2]
            rw [hb, Bool.false_or] at hg2
            have hg2 := Lib.hid hg2
            clear hb hcx
            go_wp2_with fail
            go_roundg (gk - 1)
            case measure => omega
            case rel => exact ⟨i + 1, rfl, by omega, by omega, by (repeat' (first | with_reducible assumption | with_reducible exact Below.refl _ _ | (with_reducible refine below_drewN ?_ _) | (with_reducible refine Below.drew ?_) | (with_reducible refine balloc ?_ _) | (with_reducible refine Below.setCell ?_ (by first | exact Nat.le_refl _ | (simp; done) | omega | (simp; omega)) _) | (with_reducible refine bstep ?_ (by with_reducible assumption)))), hg2⟩
        · have hb : inSpan a n (vs, va) = false := by unfold inSpan; simp [b1]
          rw [hb, Bool.false_or] at hg2
          have hg2 := Lib.hid hg2
          clear hb hcx
          go_wp2_with fail
          go_roundg (gk - 1)
          case measure => omega
          case rel => exact ⟨i + 1, rfl, by omega, by omega, by (repeat' (first | with_reducible assumption | with_reducible exact Below.refl _ _ | (with_reducible refine below_drewN ?_ _) | (with_reducible refine Below.drew ?_) | (with_reducible refine balloc ?_ _) | (with_reducible refine Below.setCell ?_ (by first | exact Nat.le_refl _ | (simp; done) | omega | (simp; omega)) _) | (with_reducible refine bstep ?_ (by with_reducible assumption)))), hg2⟩
      · obtain rfl : i = C.spans.length := by omega
        have hZ2 := Lib.hid (show Z = none by rw [← hg.out, List.drop_length]; rfl)
        have HE := Lib.hid (end_any w0 wr L C m vi vo K hM 5 0 (by omega))
        clear hg hcx
        go_wp2_with fail
        refine (HE.out).mono ?_
        rintro e w2 ⟨rfl, hM2, hK2⟩
        go_wp2_with fail
        go_ret
        rw [hZ2.out]
        exact ⟨rfl, hM2, (Kp.of_below hB).trans hK2⟩
end Go.Proofs.YtfkfdffhajokkaaGreatDoor
/- What package x86's machine loads from an address; conditions: a machine that lies in memory. -/
namespace Go.Proofs.YtfkfdffhajokkaaGreatDoor
open Go.RowKit X
set_option linter.unusedSimpArgs false
theorem getN_snoc (f : Nat → UInt8) : ∀ (k o : Nat), val (getN f o (k + 1)) = val (getN f o k) + (f (o + k)).toNat * 256 ^ k
  | 0, o => by simp [getN, val]
  | k + 1, o => by
    have ih := getN_snoc f k (o + 1)
    have e : val (getN f o (k + 1 + 1)) = (f o).toNat + 256 * val (getN f (o + 1) (k + 1)) := rfl
    have e2 : val (getN f o (k + 1)) = (f o).toNat + 256 * val (getN f (o + 1) k) := rfl
    rw [e, e2, ih, Nat.mul_add, Nat.pow_succ, show o + 1 + k = o + (k + 1) by omega]
    have : 256 * ((f (o + (k + 1))).toNat * 256 ^ k) = (f (o + (k + 1))).toNat * (256 ^ k * 256) := by
      rw [Nat.mul_left_comm, Nat.mul_comm 256 (256 ^ k)]
    omega
theorem getN_lt (f : Nat → UInt8) : ∀ (k o : Nat), val (getN f o k) < 256 ^ k
  | 0, o => by simp [getN, val]
  | k + 1, o => by
    rw [getN_snoc]
    have h1 := getN_lt f k o
    have h2 : (f (o + k)).toNat < 256 := (f (o + k)).toNat_lt
    have h3 : (f (o + k)).toNat * 256 ^ k ≤ 255 * 256 ^ k := Nat.mul_le_mul_right _ (by omega)
    rw [Nat.pow_succ]
    omega
theorem or_shl (x b k : Nat) (hx : x < 256 ^ k) (hb : b < 256) (hk : k < 8) : Go.bits .or .u64 (x : Int) (IntKind.u64.wrap ((b : Int) * 2 ^ (8 * k))) = ((x + b * 256 ^ k : Nat) : Int) := by
  have p1 : (256 : Nat) ^ k = 2 ^ (8 * k) := by rw [show (256 : Nat) = 2 ^ 8 from rfl, ← Nat.pow_mul]
  have p2 : (256 : Nat) ^ k ≤ 256 ^ 7 := Nat.pow_le_pow_right (by decide) (by omega)
  have p3 : b * 256 ^ k ≤ 255 * 256 ^ k := Nat.mul_le_mul_right _ (by omega)
  have p4 : (256 : Nat) ^ 7 = 72057594037927936 := by decide
  have hb2 : b * 256 ^ k < 18446744073709551616 := by omega
  have hs : x + b * 256 ^ k < 18446744073709551616 := by omega
  have e1 : (b : Int) * 2 ^ (8 * k) = ((b * 256 ^ k : Nat) : Int) := by rw [p1]; simp
  have e2 : IntKind.u64.wrap ((b * 256 ^ k : Nat) : Int) = ((b * 256 ^ k : Nat) : Int) := by
    have e : IntKind.u64.wrap ((b * 256 ^ k : Nat) : Int) = X.u64 ((b * 256 ^ k : Nat) : Int) := rfl
    rw [e, u64_eq]
    omega
  have e : ∀ p q : Int, Go.bits .or .u64 p q = IntKind.u64.wrap ((BitVec.ofInt 64 p ||| BitVec.ofInt 64 q).toNat : Int) := fun _ _ => rfl
  rw [e1, e2, e, BitVec.toNat_or, BitVec.toNat_ofInt, BitVec.toNat_ofInt]
  have q1 : ((x : Int) % (2 ^ 64 : Nat)).toNat = x := by omega
  have q2 : (((b * 256 ^ k : Nat) : Int) % (2 ^ 64 : Nat)).toNat = b * 256 ^ k := by omega
  rw [q1, q2, Nat.or_comm]
  have q3 : b * 256 ^ k ||| x = b * 256 ^ k + x := by
    rw [p1] at hx ⊢
    rw [Nat.mul_comm, ← Nat.two_pow_add_eq_or_of_lt hx]
  rw [q3]
  have e3 : IntKind.u64.wrap ((b * 256 ^ k + x : Nat) : Int) = X.u64 ((b * 256 ^ k + x : Nat) : Int) := rfl
  rw [e3, u64_eq]
  omega
theorem wrap_small (n : Int) (h : 0 ≤ n ∧ n < 256) : IntKind.u64.wrap n = n := by
  have e : IntKind.u64.wrap n = X.u64 n := rfl
  rw [e, u64_eq]
  omega
theorem LOk.S_lt {w0 w : World} {L : Lay} {C : Cd} {m : Mach} {vi vo : Value} (K : LOk w0 L C) (h : MAt w0 w L C m vi vo) : ∀ k, k ∈ L.S → w0.heap.size ≤ k ∧ k < w.heap.size := by
  intro k hk
  have hi := h.hi
  unfold Lay.S at hk
  simp only [List.mem_cons] at hk
  rcases hk with rfl | rfl | hk
  · exact ⟨K.mb, h.box.lt⟩
  · exact ⟨K.sb, by have := K.sB; omega⟩
  · cases ha : L.ad with
    | none => rw [ha] at hk; simp at hk
    | some a => rw [ha] at hk; simp only [List.mem_singleton] at hk; subst hk; exact ⟨(K.ad a ha).1, by have := (K.ad a ha).2.2; omega⟩
/-- What a load answers. -/
def LodRet (w0 w : World) (L : Lay) (C : Cd) (vi vo : Value) (e : Ending) (w' : World) (R : Mach × Int) : Prop :=
  e = .returned (.int .i64 R.2) ∧ MAt w0 w' L C R.1 vi vo ∧ Kp L.S w w'
set_option maxHeartbeats 1000000 in
set_option maxRecDepth 100000 in
theorem load_any (w0 w : World) (L : Lay) (C : Cd) (m : Mach) (vi vo : Value) (K : LOk w0 L C) (h : MAt w0 w L C m vi vo) (a : Int) (b : Int) (s : Bool) (ha : In64 a) (hb8 : b = 8 ∨ b = 16 ∨ b = 32 ∨ b = 64) :
    Calls Tryz.prog 124 #[.pointer (some ⟨L.mb, 0, none⟩), .int .i64 a, Wd b s] w fun e w' => LodRet w0 w L C vi vo e w' (X.load C m a b s) := by
  obtain ⟨n, hn, hn1⟩ : ∃ n : Nat, b = 8 * n ∧ 1 ≤ n ∧ n ≤ 8 := by
    rcases hb8 with rfl | rfl | rfl | rfl
    · exact ⟨1, rfl, by decide⟩
    · exact ⟨2, rfl, by decide⟩
    · exact ⟨4, rfl, by decide⟩
    · exact ⟨8, rfl, by decide⟩
  obtain ⟨R, hR⟩ : ∃ R, X.load C m a b s = R := ⟨_, rfl⟩
  rw [hR]
  unfold X.load at hR
  have hdiv : b / 8 = (n : Int) := by omega
  have hdiv2 : b.tdiv 8 = (n : Int) := by subst hn; exact Int.mul_tdiv_cancel_left _ (by decide)
  rw [hdiv] at hR
  have HB := fun w h => Lib.hid (bytes_any w0 w L C m vi vo K h a n ha hn1)
  have HW := fun n w => Lib.hid (wrap_any b hb8 s n w)
  have h1 := h.on (balloc (Below.refl _ w) (.cells #[.int .i64 b, .bool s] 157))
  have X5 := Bx.new (w := w) (c := #[.int .i64 b, .bool s]) (T := 157)
  have hx5 := X5.cell
  clear hb8 hn
  go_enter Tryz.func124, Tryz.ntmps124
  go_wp2_with fail
  refine ((HB _ h1).out).mono ?_
  rintro e w2 hB2
  obtain ⟨loc, hloc⟩ : ∃ l, locate C m a n = l := ⟨_, rfl⟩
  rw [hloc] at hR hB2
  clear hloc HB
  cases loc with
  | none =>
    obtain ⟨rfl, hM2, hK2⟩ := hB2
    have e0 : wrap64 0 = 0 := by unfold wrap64; omega
    simp only [e0] at hR
    have hx6 := (X5.kp hK2 (by intro e; have := K.S_lt h _ e; omega)).cell
    clear hx5
    go_wp2_with fail
    go_loop [7, 17] (fun v i => i = .int .i64 0 ∧ v = .int .u64 0) (fun _ _ => 0)
    case atStart => exact ⟨rfl, rfl⟩
    case round =>
      obtain ⟨rfl, rfl⟩ := hrel
      go_wp2_with fail
      refine ((HW _ _).out).mono ?_
      rintro e w3 ⟨rfl, hb3⟩
      go_wp2_with fail
      go_ret
      rw [← hR]
      exact ⟨rfl, hM2.on hb3, ((Kp.of_below (balloc (Below.refl _ w) _)).trans hK2).below hb3⟩
  | some loc =>
    cases loc with
    | stack o =>
      obtain ⟨cp, rfl, ho, hb2⟩ := hB2
      obtain ⟨sb', cur, hsb, hBx, hcs, hcur⟩ := h1.stack K.s0
      cases hsb
      have hBx2 := hBx.below hb2
      have hcell : ∀ k, k < n → w2.cell? ⟨L.sb, o + k, none⟩ = some (.int .u8 ((m.stack (o + k)).toNat : Int)) := fun k hk => by rw [hBx2.cell]; exact hcur _ (by omega)
      have hM2 := h1.on hb2
      have B2 : Below w.heap.size w w2 := bstep (balloc (Below.refl _ w) _) hb2
      simp only [Int.toNat_natCast] at hR
      have X5b := X5.below hb2
      have hx6 := X5b.cell
      have hcell := Lib.hid hcell
      clear hx5
      go_wp2_with fail
      go_loop [7, 17] (fun v i => ∃ k : Nat, k ≤ n ∧ i = .int .i64 k ∧ v = .int .u64 ((val (getN m.stack o k) : Nat) : Int)) (fun _ i => n - (intOf i).toNat)
      case atStart => exact ⟨0, by omega, rfl, rfl⟩
      case round =>
        obtain ⟨k, hk, rfl, rfl⟩ := hrel
        by_cases hlt : k < n
        · have hck := hcell.out k hlt
          go_wp2_with fail
          refine ⟨⟨k + 1, by omega, rfl, ?_⟩, by simp only [intOf]; omega⟩
          have hbt : (m.stack (o + k)).toNat < 256 := (m.stack (o + k)).toNat_lt
          rw [wrap_small ((m.stack (o + k)).toNat : Int) (by omega), or_shl _ _ _ (getN_lt _ _ _) hbt (by omega), getN_snoc]
        · obtain rfl : k = n := by omega
          go_wp2_with fail
          refine ((HW _ _).out).mono ?_
          rintro e w3 ⟨rfl, hb3⟩
          go_wp2_with fail
          go_ret
          rw [← hR]
          exact ⟨rfl, hM2.on hb3, (Kp.of_below B2).below hb3⟩
    | data o =>
      obtain ⟨blk, cp, had, rfl, ho, hb2⟩ := hB2
      obtain ⟨sb', cur, hsb, hBx, hcs, hcur⟩ := h1.data (by omega)
      rw [had] at hsb
      cases hsb
      have hBx2 := hBx.below hb2
      have hcell : ∀ k, k < n → w2.cell? ⟨blk, o + k, none⟩ = some (.int .u8 ((m.data (o + k)).toNat : Int)) := fun k hk => by rw [hBx2.cell]; exact hcur _ (by omega)
      have hM2 := h1.on hb2
      have B2 : Below w.heap.size w w2 := bstep (balloc (Below.refl _ w) _) hb2
      simp only [Int.toNat_natCast] at hR
      have X5b := X5.below hb2
      have hx6 := X5b.cell
      have hcell := Lib.hid hcell
      clear hx5
      go_wp2_with fail
      go_loop [7, 17] (fun v i => ∃ k : Nat, k ≤ n ∧ i = .int .i64 k ∧ v = .int .u64 ((val (getN m.data o k) : Nat) : Int)) (fun _ i => n - (intOf i).toNat)
      case atStart => exact ⟨0, by omega, rfl, rfl⟩
      case round =>
        obtain ⟨k, hk, rfl, rfl⟩ := hrel
        by_cases hlt : k < n
        · have hck := hcell.out k hlt
          go_wp2_with fail
          refine ⟨⟨k + 1, by omega, rfl, ?_⟩, by simp only [intOf]; omega⟩
          have hbt : (m.data (o + k)).toNat < 256 := (m.data (o + k)).toNat_lt
          rw [wrap_small ((m.data (o + k)).toNat : Int) (by omega), or_shl _ _ _ (getN_lt _ _ _) hbt (by omega), getN_snoc]
        · obtain rfl : k = n := by omega
          go_wp2_with fail
          refine ((HW _ _).out).mono ?_
          rintro e w3 ⟨rfl, hb3⟩
          go_wp2_with fail
          go_ret
          rw [← hR]
          exact ⟨rfl, hM2.on hb3, (Kp.of_below B2).below hb3⟩
end Go.Proofs.YtfkfdffhajokkaaGreatDoor
