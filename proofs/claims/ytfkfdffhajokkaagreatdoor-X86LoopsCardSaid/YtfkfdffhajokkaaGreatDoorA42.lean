/- What the program of the statement X86Loops reads as; in plain Lean; conditions: 1 to 200 times. -/
import Derived.Test.YtfkfdffhajokkaaGreatDoorA02
namespace Go.Proofs.YtfkfdffhajokkaaGreatDoor.Pl
open Go.RowKit X
set_option linter.unusedSimpArgs false
/-- The digits of a number below 1000. -/
def dig (n : Nat) : Str := if n < 10 then [UInt8.ofNat (48 + n)] else if n < 100 then [UInt8.ofNat (48 + n / 10), UInt8.ofNat (48 + n % 10)] else [UInt8.ofNat (48 + n / 100), UInt8.ofNat (48 + n / 10 % 10), UInt8.ofNat (48 + n % 10)]
def loopStep (call : Bool) : Str := if call then ([9, 99, 97, 108, 108, 9, 97, 100, 100, 10] : Str) else ([9, 97, 100, 100, 113, 9, 36, 51, 44, 32, 37, 114, 98, 120, 10] : Str)
def loopHead : Str := ([46, 100, 97, 116, 97, 32, 118, 32, 49, 54, 10, 46, 113, 117, 97, 100, 32, 118, 32, 56, 32] : Str)
def loopMid : Str := ([10, 109, 97, 105, 110, 58, 10, 9, 109, 111, 118, 113, 9, 118, 43, 56, 40, 37, 114, 105, 112, 41, 44, 32, 37, 114, 99, 120, 10, 97, 103, 97, 105, 110, 58, 10] : Str)
def loopEnd : Str := ([9, 115, 117, 98, 113, 9, 36, 49, 44, 32, 37, 114, 99, 120, 10, 9, 109, 111, 118, 113, 9, 37, 114, 99, 120, 44, 32, 118, 43, 56, 40, 37, 114, 105, 112, 41, 10, 9, 99, 109, 112, 113, 9, 36, 48, 44, 32, 37, 114, 99, 120, 10, 9, 106, 110, 101, 9, 97, 103, 97, 105, 110, 10, 9, 109, 111, 118, 113, 9, 37, 114, 98, 120, 44, 32, 118, 40, 37, 114, 105, 112, 41, 10, 9, 109, 111, 118, 113, 9, 118, 40, 37, 114, 105, 112, 41, 44, 32, 37, 114, 97, 120, 10, 9, 114, 101, 116, 10, 97, 100, 100, 58, 10, 9, 97, 100, 100, 113, 9, 36, 51, 44, 32, 37, 114, 98, 120, 10, 9, 114, 101, 116, 10] : Str)
def loopTextD (d : Str) (call : Bool) : Str := loopHead ++ d ++ loopMid ++ loopStep call ++ loopEnd
def vOpd (n : Int) : Opd := ⟨3, -1, 0, n, -1, 0, ([118] : Str)⟩
def labOpd (s : Str) : Opd := ⟨4, 0, 0, 0, 0, 0, s⟩
def loopLines (call : Bool) : List Ln := [⟨([109, 111, 118, 113] : Str), [vOpd 8, regOpd 2 8]⟩, (if call then ⟨([99, 97, 108, 108] : Str), [labOpd ([97, 100, 100] : Str)]⟩ else ⟨([97, 100, 100, 113] : Str), [numOpd 3, regOpd 1 8]⟩), ⟨([115, 117, 98, 113] : Str), [numOpd 1, regOpd 2 8]⟩,
  ⟨([109, 111, 118, 113] : Str), [regOpd 2 8, vOpd 8]⟩, ⟨([99, 109, 112, 113] : Str), [numOpd 0, regOpd 2 8]⟩, ⟨([106, 110, 101] : Str), [labOpd ([97, 103, 97, 105, 110] : Str)]⟩, ⟨([109, 111, 118, 113] : Str), [regOpd 1 8, vOpd 0]⟩, ⟨([109, 111, 118, 113] : Str), [vOpd 0, regOpd 0 8]⟩, ⟨([114, 101, 116] : Str), []⟩, ⟨([97, 100, 100, 113] : Str), [numOpd 3, regOpd 1 8]⟩, ⟨([114, 101, 116] : Str), []⟩]
def loopCodeD (n : Nat) (d : Str) (call : Bool) : Cd := ⟨loopTextD d call, loopLines call, [(([109, 97, 105, 110] : Str), 0), (([97, 103, 97, 105, 110] : Str), 1), (([97, 100, 100] : Str), 9)], [(([118] : Str), (16, 65536))], [0, 0, 0, 0, 0, 0, 0, 0, UInt8.ofNat n, 0, 0, 0, 0, 0, 0, 0], [(16, 65536)]⟩
def readsAs (s : Str) (C : Cd) : Bool := match X.read s with | .ok D => decide (D = C) | .error _ => false
theorem readsAs_eq {s : Str} {C : Cd} (h : readsAs s C = true) : X.read s = .ok C := by
  unfold readsAs at h
  split at h
  · rename_i D hD
    rw [hD, of_decide_eq_true h]
  · cases h
def readsN (call : Bool) (a : Nat) : Bool := (List.range 50).all fun n => readsAs (loopTextD (dig (a + n + 1)) call) (loopCodeD (a + n + 1) (dig (a + n + 1)) call)
set_option maxRecDepth 100000
theorem reads_t0 : readsN true 0 = true := by decide +kernel
theorem reads_t1 : readsN true 50 = true := by decide +kernel
theorem reads_t2 : readsN true 100 = true := by decide +kernel
theorem reads_t3 : readsN true 150 = true := by decide +kernel
theorem reads_f0 : readsN false 0 = true := by decide +kernel
theorem reads_f1 : readsN false 50 = true := by decide +kernel
theorem reads_f2 : readsN false 100 = true := by decide +kernel
theorem reads_f3 : readsN false 150 = true := by decide +kernel
theorem digs : ((List.range 200).all fun n => Lib.itoa ((n : Int) + 1) == dig (n + 1)) = true := by decide +kernel
theorem itoa_dig (n : Nat) (h0 : 1 ≤ n) (h1 : n ≤ 200) : Lib.itoa (n : Int) = dig n := by
  obtain ⟨k, rfl⟩ : ∃ k, n = k + 1 := ⟨n - 1, by omega⟩
  have := List.all_eq_true.1 digs k (List.mem_range.2 (by omega))
  simpa using this
theorem reads_at {call : Bool} {a : Nat} (h : readsN call a = true) (n : Nat) (h0 : a < n) (h1 : n ≤ a + 50) : X.read (loopTextD (dig n) call) = .ok (loopCodeD n (dig n) call) := by
  have := List.all_eq_true.1 h (n - a - 1) (List.mem_range.2 (by omega))
  rw [show a + (n - a - 1) + 1 = n by omega] at this
  exact readsAs_eq this
def loopText (n : Nat) (call : Bool) : Str := loopTextD (Lib.itoa (n : Int)) call
def loopCode (n : Nat) (call : Bool) : Cd := loopCodeD n (Lib.itoa (n : Int)) call
theorem loop_read (n : Nat) (h0 : 1 ≤ n) (h1 : n ≤ 200) (call : Bool) : X.read (loopText n call) = .ok (loopCode n call) := by
  unfold loopText loopCode
  rw [itoa_dig n h0 h1]
  have hc : (0 < n ∧ n ≤ 0 + 50) ∨ (50 < n ∧ n ≤ 50 + 50) ∨ (100 < n ∧ n ≤ 100 + 50) ∨ (150 < n ∧ n ≤ 150 + 50) := by omega
  cases call
  · rcases hc with h | h | h | h
    · exact reads_at reads_f0 n h.1 h.2
    · exact reads_at reads_f1 n h.1 h.2
    · exact reads_at reads_f2 n h.1 h.2
    · exact reads_at reads_f3 n h.1 h.2
  · rcases hc with h | h | h | h
    · exact reads_at reads_t0 n h.1 h.2
    · exact reads_at reads_t1 n h.1 h.2
    · exact reads_at reads_t2 n h.1 h.2
    · exact reads_at reads_t3 n h.1 h.2
end Go.Proofs.YtfkfdffhajokkaaGreatDoor.Pl
/- What the program of the statement X86Loops comes to when package x86's machine runs it; in plain Lean; conditions: 1 to 200 times. -/
namespace Go.Proofs.YtfkfdffhajokkaaGreatDoor.Pl
open Go.RowKit X
set_option linter.unusedSimpArgs false
/-- One variable of 16 bytes. -/
structure Vars (C : Cd) : Prop where
  v : C.vars = [(([118] : Str), (16, 65536))]
  s : C.spans = [(16, 65536)]
theorem v_address {C : Cd} (h : Vars C) (m : Mach) (k : Nat) (hk : k ≤ 8) : X.address C m (vOpd k) = 65536 + k := by
  have e : X.address C m (vOpd k) = wrap64 (((C.vars.lookup ([118] : Str)).getD (0, 0)).2 + (k : Int)) := rfl
  rw [e, h.v]
  show wrap64 (65536 + (k : Int)) = _
  exact wrap64_I (by unfold I64; omega)
theorem v_locate {C : Cd} (h : Vars C) (m : Mach) (k : Nat) (hk : k ≤ 8) (hs : m.sN ≤ 1048576) : locate C m (65536 + k) 8 = some (.data k) := by
  unfold locate
  rw [if_neg (by omega), h.s, if_pos (by simp [inSpan]; omega)]
  congr 2
  omega
theorem v_value {C : Cd} (h : Vars C) (m : Mach) (k : Nat) (hk : k ≤ 8) (hs : m.sN ≤ 1048576) : X.value C m (vOpd k) 64 true = (m, word64 m.data k) := by
  have e : X.value C m (vOpd k) 64 true = X.load C m (X.address C m (vOpd k)) 64 true := rfl
  rw [e, v_address h m k hk]
  unfold X.load
  rw [show (64 : Int) / 8 = 8 from rfl, v_locate h m k hk hs]
  simp only
  rw [wrapW64 (I64.wrap _)]
  rfl
theorem v_move {C : Cd} (h : Vars C) (m : Mach) (k : Nat) (hk : k ≤ 8) (hs : m.sN ≤ 1048576) (h0 : m.kind = 0) (n : Int) : X.move C m (vOpd k) n 8 = { m with data := putN m.data k 8 n } := by
  have e : X.move C m (vOpd k) n 8 = if m.kind ≠ 0 then m else X.store C m (X.address C m (vOpd k)) n 8 := rfl
  rw [e, if_neg (by simp [h0]), v_address h m k hk]
  unfold X.store
  rw [show ((8 : Nat) : Int) = 8 from rfl, v_locate h m k hk hs]
theorem st_vload {C : Cd} (h : Vars C) (m : Mach) (i : Nat) (ha : m.at_ = i) (h0 : m.kind = 0) (k : Nat) (r : Nat) (hk : k ≤ 8) (hs : m.sN ≤ 1048576) (hl : C.lines[i]? = some ⟨([109, 111, 118, 113] : Str), [vOpd k, regOpd r 8]⟩) :
    X.step C m = setReg { m with at_ := (i : Int) + 1 } r (word64 m.data k) := by
  rw [step_at C m i _ ha hl]
  unfold exec
  simp only
  rw [two_mov C _ _ Mov.movq, v_value h { m with at_ := (i : Int) + 1 } k hk hs, move_reg C { m with at_ := (i : Int) + 1 } r 8 _ 8 h0]
theorem st_vstore {C : Cd} (h : Vars C) (m : Mach) (i : Nat) (ha : m.at_ = i) (h0 : m.kind = 0) (k : Nat) (r : Nat) (hk : k ≤ 8) (hs : m.sN ≤ 1048576) (h64 : I64 (m.regs r)) (hl : C.lines[i]? = some ⟨([109, 111, 118, 113] : Str), [regOpd r 8, vOpd k]⟩) :
    X.step C m = { m with at_ := (i : Int) + 1, data := putN m.data k 8 (m.regs r) } := by
  rw [step_at C m i _ ha hl]
  unfold exec
  simp only
  rw [two_mov C _ _ Mov.movq, value_reg C { m with at_ := (i : Int) + 1 } r 8 h64, v_move h { m with at_ := (i : Int) + 1 } k hk hs h0]
theorem st_sumn (C : Cd) (m : Mach) (i : Nat) (ha : m.at_ = i) (h0 : m.kind = 0) (op : Str) (sub v : Int) (r : Nat) (he : extTab.lookup op = none) (hp : partTab.lookup op = none) (h : sumTab.lookup op = some sub) (hl : C.lines[i]? = some ⟨op, [numOpd v, regOpd r 8]⟩) :
    X.step C m = setReg { m with at_ := (i : Int) + 1 } r (plain sub (m.regs r) v) := by
  rw [step_at C m i _ ha hl]
  unfold exec
  simp only
  rw [two_sum C _ op sub he hp h, value_num, move_reg C { m with at_ := (i : Int) + 1 } r 8 _ 8 h0]
  rfl
theorem st_cmpn (C : Cd) (m : Mach) (i : Nat) (ha : m.at_ = i) (v : Int) (r : Nat) (hl : C.lines[i]? = some ⟨([99, 109, 112, 113] : Str), [numOpd v, regOpd r 8]⟩) :
    X.step C m = { m with at_ := (i : Int) + 1, x := m.regs r, y := v, compared := true } := by
  rw [step_at C m i _ ha hl]
  unfold exec
  simp only
  rw [two_cmp, value_num]
  rfl
theorem leap_to (C : Cd) (m : Mach) (t : Nat) (h : t < C.lines.length) (h1 : C.lines.length ≤ 1000) : leap C m (268435456 + t) = { m with at_ := t } := by
  unfold leap
  have e : wrap64 (268435456 + (t : Int) - 268435456) = t := by rw [show 268435456 + (t : Int) - 268435456 = t by omega]; exact wrap64_I (by unfold I64; omega)
  rw [e, if_neg (by omega)]
theorem st_jne (C : Cd) (m : Mach) (i t : Nat) (ha : m.at_ = i) (s : Str) (hc : m.compared = true) (hlab : C.labels.lookup s = some (t : Int)) (ht : t < C.lines.length) (h1 : C.lines.length ≤ 1000) (hl : C.lines[i]? = some ⟨([106, 110, 101] : Str), [labOpd s]⟩) :
    X.step C m = { m with at_ := if m.x = m.y then (i : Int) + 1 else t } := by
  rw [step_at C m i _ ha hl]
  unfold exec
  simp only
  have e := one_j C { m with at_ := (i : Int) + 1 } ([110, 101] : Str) (by decide) (labOpd s) hc
  have et : target C { m with at_ := (i : Int) + 1 } (labOpd s) = 268435456 + t := by
    have : target C { m with at_ := (i : Int) + 1 } (labOpd s) = 268435456 + (C.labels.lookup s).getD 0 := rfl
    rw [this, hlab]; rfl
  rw [et, leap_to C _ t ht h1] at e
  have ec : cond ([110, 101] : Str) m.x m.y = (m.x != m.y) := rfl
  show X.one C _ (([106] : Str) ++ ([110, 101] : Str)) _ = _
  rw [e]
  simp only [ec]
  by_cases hx : m.x = m.y
  · simp [hx]
  · simp [hx]
theorem st_call (C : Cd) (m : Mach) (i t : Nat) (ha : m.at_ = i) (s : Str) (p : Int) (st : Nat → UInt8) (hlab : C.labels.lookup s = some (t : Int)) (ht : t < C.lines.length) (h1 : C.lines.length ≤ 1000)
    (hp : X.push C { m with at_ := (i : Int) + 1 } (268435456 + ((i : Int) + 1)) = { setReg { m with at_ := (i : Int) + 1 } 7 p with stack := st }) (hl : C.lines[i]? = some ⟨([99, 97, 108, 108] : Str), [labOpd s]⟩) :
    X.step C m = { setReg m 7 p with stack := st, at_ := t } := by
  rw [step_at C m i _ ha hl]
  unfold exec
  simp only
  have et : target C { m with at_ := (i : Int) + 1 } (labOpd s) = 268435456 + t := by
    have : target C { m with at_ := (i : Int) + 1 } (labOpd s) = 268435456 + (C.labels.lookup s).getD 0 := rfl
    rw [this, hlab]; rfl
  rw [one_call, et, hp, leap_to C _ t ht h1]
  rfl
end Go.Proofs.YtfkfdffhajokkaaGreatDoor.Pl
/- What the program of the statement X86Loops comes to when package x86's machine runs it: with as many steps as it takes, and with one less; in plain Lean; conditions: 1 to 200 times. -/
namespace Go.Proofs.YtfkfdffhajokkaaGreatDoor.Pl
open Go.RowKit X
set_option linter.unusedSimpArgs false
structure LoopAt (m : Mach) (i : Nat) (b c : Int) : Prop where
  kind : m.kind = 0
  at_ : m.at_ = i
  rb : m.regs 1 = b
  rc : m.regs 2 = c
  st : StackIs m [0]
  sN : m.sN = 64
  out : m.out = []
theorem reg_same (m : Mach) (r : Nat) (v : Int) : (setReg m r v).regs r = v := by show upd m.regs r v r = v; unfold upd; rw [if_pos rfl]
theorem reg_other (m : Mach) (r j : Nat) (v : Int) (h : j ≠ r) : (setReg m r v).regs j = m.regs j := by show upd m.regs r v j = m.regs j; unfold upd; rw [if_neg h]
/-- The steps of one addition. -/
def addSteps (call : Bool) : Nat := if call then 3 else 1
theorem plain_add {b v : Int} (h : I64 (b + v)) : plain 1 b v = b + v := by unfold plain; rw [if_pos rfl]; exact wrap64_I h
theorem plain_sub {b v : Int} (h : I64 (b - v)) : plain 2 b v = b - v := by unfold plain; rw [if_neg (by decide), if_pos rfl]; exact wrap64_I h
structure LoopCode (C : Cd) (call : Bool) : Prop where
  lines : C.lines = loopLines call
  vars : Vars C
  again : C.labels.lookup ([97, 103, 97, 105, 110] : Str) = some ((1 : Nat) : Int)
  add : C.labels.lookup ([97, 100, 100] : Str) = some ((9 : Nat) : Int)
theorem sum_facts : (extTab.lookup ([97, 100, 100, 113] : Str) = none ∧ partTab.lookup ([97, 100, 100, 113] : Str) = none ∧ sumTab.lookup ([97, 100, 100, 113] : Str) = some 1) ∧ (extTab.lookup ([115, 117, 98, 113] : Str) = none ∧ partTab.lookup ([115, 117, 98, 113] : Str) = none ∧ sumTab.lookup ([115, 117, 98, 113] : Str) = some 2) := by decide
theorem add_run {C : Cd} {call : Bool} (L : LoopCode C call) {m : Mach} {b c : Int} (h : LoopAt m 1 b c) (hb : 0 ≤ b ∧ b ≤ 1000) : ∃ m', (∀ k, iter C (k + addSteps call) m = iter C k m') ∧ LoopAt m' 2 (b + 3) c := by
  obtain ⟨h0, ha, hb1, hc, hS, hN, ho⟩ := h
  obtain ⟨⟨f1, f2, f3⟩, -⟩ := sum_facts
  have hll : C.lines.length = 11 := by rw [L.lines]; cases call <;> rfl
  cases call
  · have e := st_sumn C m 1 ha h0 ([97, 100, 100, 113] : Str) 1 3 1 f1 f2 f3 (by rw [L.lines]; rfl)
    rw [hb1, plain_add (by unfold I64; omega)] at e
    obtain ⟨m1, hm1⟩ : ∃ x, setReg { m with at_ := ((1 : Nat) : Int) + 1 } 1 (b + 3) = x := ⟨_, rfl⟩
    rw [hm1] at e
    refine ⟨m1, fun k => by rw [show k + addSteps false = k + 1 from rfl, iter_step C k m h0, e], ?_⟩
    rw [← hm1]
    exact ⟨h0, rfl, reg_same _ _ _, (reg_other _ _ _ _ (by decide)).trans hc, hS.same (reg_other _ _ _ _ (by decide)) rfl rfl, hN, ho⟩
  · have S1 : StackIs { m with at_ := ((1 : Nat) : Int) + 1 } [0] := hS.same rfl rfl rfl
    obtain ⟨p, st, hp, e1, S2⟩ := S1.push C (n := 268435456 + (((1 : Nat) : Int) + 1)) (by unfold I64; omega) (by show 8 * (1 + 1) ≤ m.sN; omega)
    have e := st_call C m 1 9 ha ([97, 100, 100] : Str) p st L.add (by omega) (by omega) e1 (by rw [L.lines]; rfl)
    obtain ⟨m1, hm1⟩ : ∃ x, ({ setReg m 7 p with stack := st, at_ := ((9 : Nat) : Int) } : Mach) = x := ⟨_, rfl⟩
    rw [hm1] at e
    have q1 : m1.kind = 0 ∧ m1.at_ = (9 : Nat) ∧ m1.regs 1 = b ∧ m1.regs 2 = c ∧ m1.sN = 64 ∧ m1.out = [] ∧ StackIs m1 [268435456 + (((1 : Nat) : Int) + 1), 0] := by
      rw [← hm1]
      refine ⟨h0, rfl, ?_, ?_, hN, ho, S2.same rfl rfl rfl⟩
      · exact (reg_other m 7 1 p (by decide)).trans hb1
      · exact (reg_other m 7 2 p (by decide)).trans hc
    obtain ⟨k1, a1, b1, c1, n1, o1, S3⟩ := q1
    have e2 := st_sumn C m1 9 a1 k1 ([97, 100, 100, 113] : Str) 1 3 1 f1 f2 f3 (by rw [L.lines]; rfl)
    rw [b1, plain_add (by unfold I64; omega)] at e2
    obtain ⟨m2, hm2⟩ : ∃ x, setReg { m1 with at_ := ((9 : Nat) : Int) + 1 } 1 (b + 3) = x := ⟨_, rfl⟩
    rw [hm2] at e2
    have q2 : m2.kind = 0 ∧ m2.at_ = (10 : Nat) ∧ m2.regs 1 = b + 3 ∧ m2.regs 2 = c ∧ m2.sN = 64 ∧ m2.out = [] ∧ StackIs m2 [268435456 + (((1 : Nat) : Int) + 1), 0] := by
      rw [← hm2]
      exact ⟨k1, rfl, reg_same _ _ _, (reg_other _ _ _ _ (by decide)).trans c1, n1, o1, S3.same (reg_other _ _ _ _ (by decide)) rfl rfl⟩
    obtain ⟨k2, a2, b2, c2, n2, o2, S4⟩ := q2
    have S5 : StackIs { m2 with at_ := ((10 : Nat) : Int) + 1 } [268435456 + (((1 : Nat) : Int) + 1), 0] := S4.same rfl rfl rfl
    obtain ⟨p2, hp2, e3, S6⟩ := S5.pop C
    have e4 := st_ret C m2 10 a2 _ _ (by rw [L.lines]; rfl) e3 (by omega)
    rw [show 268435456 + (((1 : Nat) : Int) + 1) = 268435456 + ((2 : Nat) : Int) by omega, leap_to C _ 2 (by omega) (by omega)] at e4
    obtain ⟨m3, hm3⟩ : ∃ x, ({ setReg { m2 with at_ := ((10 : Nat) : Int) + 1 } 7 p2 with at_ := ((2 : Nat) : Int) } : Mach) = x := ⟨_, rfl⟩
    rw [hm3] at e4
    refine ⟨m3, fun k => by rw [show k + addSteps true = k + 2 + 1 from rfl, iter_step C _ m h0, e, iter_step C (k + 1) m1 k1, e2, iter_step C k m2 k2, e4], ?_⟩
    rw [← hm3]
    exact ⟨k2, rfl, (reg_other m2 7 1 p2 (by decide)).trans b2, (reg_other m2 7 2 p2 (by decide)).trans c2, S6.same rfl rfl rfl, n2, o2⟩
theorem round_run {C : Cd} {call : Bool} (L : LoopCode C call) {m : Mach} {b c : Int} (h : LoopAt m 1 b c) (hb : 0 ≤ b ∧ b ≤ 1000) (hc1 : 1 ≤ c ∧ c ≤ 1000) :
    ∃ m', (∀ k, iter C (k + (addSteps call + 4)) m = iter C k m') ∧ LoopAt m' (if c = 1 then 6 else 1) (b + 3) (c - 1) := by
  obtain ⟨m1, e1, h1⟩ := add_run L h hb
  obtain ⟨k1, a1, b1, c1, S1, n1, o1⟩ := h1
  obtain ⟨-, ⟨g1, g2, g3⟩⟩ := sum_facts
  have hll : C.lines.length = 11 := by rw [L.lines]; cases call <;> rfl
  have line : ∀ (i : Nat) (l : Ln), i ≠ 1 → (loopLines true)[i]? = some l → C.lines[i]? = some l := fun i l hi hl => by
    rw [L.lines]
    cases call
    · match i, hi, hl with
      | 0, _, hl => exact hl
      | n + 2, _, hl => exact hl
    · exact hl
  have e2 := st_sumn C m1 2 a1 k1 ([115, 117, 98, 113] : Str) 2 1 2 g1 g2 g3 (line 2 _ (by decide) rfl)
  rw [c1, plain_sub (by unfold I64; omega)] at e2
  obtain ⟨m2, hm2⟩ : ∃ x, setReg { m1 with at_ := ((2 : Nat) : Int) + 1 } 2 (c - 1) = x := ⟨_, rfl⟩
  rw [hm2] at e2
  have q2 : LoopAt m2 3 (b + 3) (c - 1) := by
    rw [← hm2]
    exact ⟨k1, rfl, (reg_other _ 2 1 _ (by decide)).trans b1, reg_same _ _ _, S1.same (reg_other _ _ _ _ (by decide)) rfl rfl, n1, o1⟩
  have e3 := st_vstore L.vars m2 3 q2.at_ q2.kind 8 2 (by omega) (by rw [q2.sN]; omega) (by rw [q2.rc]; unfold I64; omega) (line 3 _ (by decide) rfl)
  obtain ⟨m3, hm3⟩ : ∃ x, ({ m2 with at_ := ((3 : Nat) : Int) + 1, data := putN m2.data 8 8 (m2.regs 2) } : Mach) = x := ⟨_, rfl⟩
  rw [hm3] at e3
  have q3 : LoopAt m3 4 (b + 3) (c - 1) := by
    rw [← hm3]
    exact ⟨q2.kind, rfl, q2.rb, q2.rc, q2.st.same rfl rfl rfl, q2.sN, q2.out⟩
  have e4 := st_cmpn C m3 4 q3.at_ 0 2 (line 4 _ (by decide) rfl)
  obtain ⟨m4, hm4⟩ : ∃ x, ({ m3 with at_ := ((4 : Nat) : Int) + 1, x := m3.regs 2, y := 0, compared := true } : Mach) = x := ⟨_, rfl⟩
  rw [hm4] at e4
  have q4 : LoopAt m4 5 (b + 3) (c - 1) ∧ m4.compared = true ∧ m4.x = c - 1 ∧ m4.y = 0 := by
    rw [← hm4]
    exact ⟨⟨q3.kind, rfl, q3.rb, q3.rc, q3.st.same rfl rfl rfl, q3.sN, q3.out⟩, rfl, q3.rc, rfl⟩
  obtain ⟨q4, hcm, hx, hy⟩ := q4
  have e5 := st_jne C m4 5 1 q4.at_ ([97, 103, 97, 105, 110] : Str) hcm L.again (by omega) (by omega) (line 5 _ (by decide) rfl)
  obtain ⟨m5, hm5⟩ : ∃ x, ({ m4 with at_ := if m4.x = m4.y then ((5 : Nat) : Int) + 1 else ((1 : Nat) : Int) } : Mach) = x := ⟨_, rfl⟩
  rw [hm5] at e5
  refine ⟨m5, fun k => by rw [show k + (addSteps call + 4) = (k + 4) + addSteps call by omega, e1, iter_step C (k + 3) m1 k1, e2, iter_step C (k + 2) m2 q2.kind, e3, iter_step C (k + 1) m3 q3.kind, e4, iter_step C k m4 q4.kind, e5], ?_⟩
  rw [← hm5]
  refine ⟨q4.kind, ?_, q4.rb, q4.rc, q4.st.same rfl rfl rfl, q4.sN, q4.out⟩
  show (if m4.x = m4.y then ((5 : Nat) : Int) + 1 else ((1 : Nat) : Int)) = _
  rw [hx, hy]
  by_cases hc : c = 1
  · rw [if_pos (by omega), if_pos hc]; rfl
  · rw [if_neg (by omega), if_neg hc]
theorem rounds_run {C : Cd} {call : Bool} (L : LoopCode C call) : ∀ (n : Nat) (m : Mach) (b : Int), LoopAt m 1 b ((n : Int) + 1) → 0 ≤ b → b + 3 * n ≤ 900 →
    ∃ m', (∀ k, iter C (k + (n + 1) * (addSteps call + 4)) m = iter C k m') ∧ LoopAt m' 6 (b + 3 * ((n : Int) + 1)) 0
  | 0, m, b, h, h0, h1 => by
    obtain ⟨m1, e1, q1⟩ := round_run L h (by omega) (by omega)
    refine ⟨m1, fun k => by rw [show k + (0 + 1) * (addSteps call + 4) = k + (addSteps call + 4) by omega, e1], ?_⟩
    have q := q1
    simp only [Int.natCast_zero, Int.zero_add, if_true, Int.sub_self] at q
    rw [show b + 3 * (((0 : Nat) : Int) + 1) = b + 3 by omega]
    exact q
  | n + 1, m, b, h, h0, h1 => by
    obtain ⟨m1, e1, q1⟩ := round_run L h (by omega) (by omega)
    rw [if_neg (by omega), show ((n + 1 : Nat) : Int) + 1 - 1 = (n : Int) + 1 by omega] at q1
    obtain ⟨m2, e2, q2⟩ := rounds_run L n m1 (b + 3) q1 (by omega) (by omega)
    refine ⟨m2, fun k => by rw [Nat.add_mul (n + 1) 1, Nat.one_mul, ← Nat.add_assoc, e1, e2], ?_⟩
    rw [show b + 3 * (((n + 1 : Nat) : Int) + 1) = b + 3 + 3 * ((n : Int) + 1) by omega]
    exact q2
theorem end_run {C : Cd} {call : Bool} (L : LoopCode C call) {m : Mach} {b c : Int} (h : LoopAt m 6 b c) (hb : 0 ≤ b ∧ b ≤ 1000) :
    (∃ m', (∀ k, iter C (k + 2) m = iter C k m') ∧ m'.kind = 0) ∧ ∃ m', (∀ k, iter C (k + 3) m = m') ∧ m'.kind = 1 ∧ m'.code = Go.bits .and .i64 b 255 ∧ m'.out = [] := by
  have line : ∀ (i : Nat) (l : Ln), i ≠ 1 → (loopLines true)[i]? = some l → C.lines[i]? = some l := fun i l hi hl => by
    rw [L.lines]
    cases call
    · match i, hi, hl with
      | 0, _, hl => exact hl
      | n + 2, _, hl => exact hl
    · exact hl
  have e1 := st_vstore L.vars m 6 h.at_ h.kind 0 1 (by omega) (by rw [h.sN]; omega) (by rw [h.rb]; unfold I64; omega) (line 6 _ (by decide) rfl)
  obtain ⟨m1, hm1⟩ : ∃ x, ({ m with at_ := ((6 : Nat) : Int) + 1, data := putN m.data 0 8 (m.regs 1) } : Mach) = x := ⟨_, rfl⟩
  rw [hm1] at e1
  have q1 : LoopAt m1 7 b c ∧ word64 m1.data 0 = b := by
    rw [← hm1]
    refine ⟨⟨h.kind, rfl, h.rb, h.rc, h.st.same rfl rfl rfl, h.sN, h.out⟩, ?_⟩
    show word64 (putN m.data 0 8 (m.regs 1)) 0 = b
    rw [h.rb]
    exact word64_put _ _ (by unfold I64; omega)
  obtain ⟨q1, hw⟩ := q1
  have e2 := st_vload L.vars m1 7 q1.at_ q1.kind 0 0 (by omega) (by rw [q1.sN]; omega) (line 7 _ (by decide) rfl)
  rw [hw] at e2
  obtain ⟨m2, hm2⟩ : ∃ x, setReg { m1 with at_ := ((7 : Nat) : Int) + 1 } 0 b = x := ⟨_, rfl⟩
  rw [hm2] at e2
  have q2 : LoopAt m2 8 b c ∧ m2.regs 0 = b := by
    rw [← hm2]
    exact ⟨⟨q1.kind, rfl, (reg_other _ 0 1 _ (by decide)).trans q1.rb, (reg_other _ 0 2 _ (by decide)).trans q1.rc, q1.st.same (reg_other _ _ _ _ (by decide)) rfl rfl, q1.sN, q1.out⟩, reg_same _ _ _⟩
  obtain ⟨q2, hr⟩ := q2
  have S3 : StackIs { m2 with at_ := ((8 : Nat) : Int) + 1 } [0] := q2.st.same rfl rfl rfl
  obtain ⟨p, hp, e3, -⟩ := S3.pop C
  have e4 := st_ret0 C m2 8 q2.at_ _ (line 8 _ (by decide) rfl) e3 q2.kind
  refine ⟨⟨m2, fun k => by rw [iter_step C (k + 1) m h.kind, e1, iter_step C k m1 q1.kind, e2], q2.kind⟩, ?_⟩
  obtain ⟨m3, hm3⟩ : ∃ x, ({ setReg { m2 with at_ := ((8 : Nat) : Int) + 1 } 7 p with kind := 1, code := Go.bits .and .i64 ((setReg { m2 with at_ := ((8 : Nat) : Int) + 1 } 7 p).regs 0) 255 } : Mach) = x := ⟨_, rfl⟩
  rw [hm3] at e4
  have q3 : m3.kind = 1 ∧ m3.code = Go.bits .and .i64 b 255 ∧ m3.out = [] := by
    rw [← hm3]
    refine ⟨rfl, ?_, q2.out⟩
    show Go.bits .and .i64 ((setReg { m2 with at_ := ((8 : Nat) : Int) + 1 } 7 p).regs 0) 255 = _
    rw [reg_other _ 7 0 _ (by decide)]
    show Go.bits .and .i64 (m2.regs 0) 255 = _
    rw [hr]
  refine ⟨m3, fun k => by rw [iter_step C (k + 2) m h.kind, e1, iter_step C (k + 1) m1 q1.kind, e2, iter_step C k m2 q2.kind, e4, iter_over C k m3 (by rw [q3.1]; decide)], q3⟩
theorem loopCode_is (n : Nat) (call : Bool) : LoopCode (loopCode n call) call := ⟨rfl, ⟨rfl, rfl⟩, rfl, rfl⟩
theorem loop_word (n : Nat) (h : n ≤ 200) (call : Bool) : word64 (fun i => (loopCode n call).data.getD i 0) 8 = n := by
  unfold word64
  have e : getN (fun i => (loopCode n call).data.getD i 0) 8 8 = [UInt8.ofNat n, 0, 0, 0, 0, 0, 0, 0] := rfl
  rw [e]
  simp only [val]
  rw [UInt8.toNat_ofNat', Nat.mod_eq_of_lt (by omega)]
  exact wrap64_I (by unfold I64; simp; omega)
/-- With as many steps as it takes, and with one less. -/
theorem loops_run (n : Nat) (h0 : 1 ≤ n) (h1 : n ≤ 200) (call : Bool) :
    (∃ m, X.run (loopCode n call) [] (1 + n * (addSteps call + 4) + 3) 64 = m ∧ m.kind = 1 ∧ m.code = Go.bits .and .i64 (3 * (n : Int)) 255 ∧ m.out = []) ∧
    ∃ m, X.run (loopCode n call) [] (1 + n * (addSteps call + 4) + 2) 64 = m ∧ m.kind = 3 := by
  have L := loopCode_is n call
  have hw := loop_word n h1 call
  have hmain : (loopCode n call).labels.lookup ([109, 97, 105, 110] : Str) = some 0 := by cases call <;> rfl
  obtain ⟨C, hC⟩ : ∃ C, loopCode n call = C := ⟨_, rfl⟩
  rw [hC] at L hw hmain ⊢
  obtain ⟨j, rfl⟩ : ∃ j, n = j + 1 := ⟨n - 1, by omega⟩
  unfold X.run
  rw [runN_eq, runN_eq, begin_eq C [] 64 0 hmain (by decide) (by decide)]
  have S0 := StackIs.start C [] 64 0 (by decide) (by decide)
  obtain ⟨s0, hs0⟩ : ∃ s, start C [] 64 0 = s := ⟨_, rfl⟩
  have q0 : s0.kind = 0 ∧ s0.at_ = (0 : Nat) ∧ s0.regs 1 = 0 ∧ s0.sN = 64 ∧ s0.out = [] ∧ word64 s0.data 8 = ((j + 1 : Nat) : Int) := by
    rw [← hs0]
    exact ⟨rfl, rfl, rfl, rfl, rfl, hw⟩
  rw [hs0] at S0 ⊢
  obtain ⟨k0, a0, b0, n0, o0, w0⟩ := q0
  have e1 := st_vload L.vars s0 0 a0 k0 8 2 (by omega) (by rw [n0]; omega) (by rw [L.lines]; cases call <;> rfl)
  rw [w0] at e1
  obtain ⟨m1, hm1⟩ : ∃ x, setReg { s0 with at_ := ((0 : Nat) : Int) + 1 } 2 ((j + 1 : Nat) : Int) = x := ⟨_, rfl⟩
  rw [hm1] at e1
  have q1 : LoopAt m1 1 0 ((j : Int) + 1) := by
    rw [← hm1]
    refine ⟨k0, rfl, (reg_other _ 2 1 _ (by decide)).trans b0, ?_, S0.same (reg_other _ _ _ _ (by decide)) rfl rfl, n0, o0⟩
    rw [reg_same]; omega
  obtain ⟨m2, e2, q2⟩ := rounds_run L j m1 0 q1 (by omega) (by omega)
  obtain ⟨⟨m3, e3, k3⟩, m4, e4, k4, c4, o4⟩ := end_run L q2 (by omega)
  have t3 : 1 + (j + 1) * (addSteps call + 4) + 3 = (3 + (j + 1) * (addSteps call + 4)) + 1 := by omega
  have t2 : 1 + (j + 1) * (addSteps call + 4) + 2 = (2 + (j + 1) * (addSteps call + 4)) + 1 := by omega
  have F3 : iter C (1 + (j + 1) * (addSteps call + 4) + 3) s0 = m4 := by
    rw [t3, iter_step C _ s0 k0, e1, e2]
    have := e4 0
    rw [Nat.zero_add] at this
    exact this
  have F2 : iter C (1 + (j + 1) * (addSteps call + 4) + 2) s0 = m3 := by
    rw [t2, iter_step C _ s0 k0, e1, e2]
    have := e3 0
    rw [Nat.zero_add] at this
    exact this
  rw [F3, F2]
  have hb : (0 : Int) + 3 * ((j : Int) + 1) = 3 * ((j + 1 : Nat) : Int) := by omega
  rw [hb] at c4
  have hk4 : m4.kind ≠ 0 := by rw [k4]; decide
  refine ⟨⟨_, rfl, ?_, ?_, ?_⟩, _, rfl, ?_⟩
  · show (fin m4).kind = 1; unfold fin; rw [if_pos hk4]; exact k4
  · show (fin m4).code = _; unfold fin; rw [if_pos hk4]; exact c4
  · show (fin m4).out = []; unfold fin; rw [if_pos hk4]; exact o4
  · show (fin m3).kind = 3
    unfold fin
    rw [if_neg (by simp [k3])]
    unfold halt
    rw [if_neg (by simp [k3])]
end Go.Proofs.YtfkfdffhajokkaaGreatDoor.Pl
