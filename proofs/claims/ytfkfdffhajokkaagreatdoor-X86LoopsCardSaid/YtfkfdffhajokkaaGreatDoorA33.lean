/- How long a machine's output and a line's word may be; in plain Lean; conditions: none beyond each theorem's own. -/
import Derived.Test.YtfkfdffhajokkaaGreatDoorA25
import Derived.Test.YtfkfdffhajokkaaGreatDoorA32
import Derived.Deep.RegionLaw
namespace Go.Proofs.YtfkfdffhajokkaaGreatDoor
open Go.RowKit X
set_option linter.unusedSimpArgs false
theorem halt_out (m : Mach) (k c : Int) : (halt m k c).out = m.out := by unfold halt; split <;> rfl
theorem load_out (C : Cd) (m : Mach) (a b : Int) (s : Bool) : (X.load C m a b s).1.out = m.out := by
  unfold X.load
  split
  · rfl
  · rfl
  · exact halt_out _ _ _
theorem store_out (C : Cd) (m : Mach) (a n : Int) (k : Nat) : (X.store C m a n k).out = m.out := by
  unfold X.store
  split
  · rfl
  · rfl
  · exact halt_out _ _ _
theorem value_out (C : Cd) (m : Mach) (o : Opd) (b : Int) (s : Bool) : (X.value C m o b s).1.out = m.out := by
  unfold X.value
  split
  · rfl
  · split
    · exact load_out _ _ _ _ _
    · rfl
theorem move_out (C : Cd) (m : Mach) (o : Opd) (n : Int) (k : Nat) : (X.move C m o n k).out = m.out := by
  unfold X.move
  split
  · rfl
  · split
    · exact store_out _ _ _ _ _
    · rfl
theorem push_out (C : Cd) (m : Mach) (n : Int) : (X.push C m n).out = m.out := store_out _ _ _ _ _
theorem pop_out (C : Cd) (m : Mach) : (X.pop C m).1.out = m.out := load_out C m _ _ _
theorem leap_out (C : Cd) (m : Mach) (t : Int) : (X.leap C m t).out = m.out := by
  unfold X.leap
  split
  · exact halt_out _ _ _
  · rfl
theorem holds_out (m : Mach) (c : Str) : (X.holds m c).1.out = m.out := by
  unfold X.holds
  split
  · rfl
  · exact halt_out _ _ _
theorem divide_out (m : Mach) (s : Bool) (d : Int) : (X.divide m s d).out = m.out := by
  unfold X.divide
  simp only
  split
  · split
    · exact halt_out _ _ _
    · rfl
  · split
    · exact halt_out _ _ _
    · rfl
theorem two_out (C : Cd) (m : Mach) (w : Str) (a b : Opd) : (X.two C m w a b).out = m.out := by
  unfold X.two
  split
  · rw [move_out, value_out]
  · split
    · rw [move_out, value_out]
    · split
      · rw [move_out, value_out]
      · split
        · split <;> rw [move_out]
        · split
          · exact value_out C m a 64 true
          · split
            · rfl
            · rw [move_out, value_out]
theorem one_out (C : Cd) (m : Mach) (w : Str) (a : Opd) : (X.one C m w a).out = m.out := by
  unfold X.one
  split
  · rfl
  · split
    · rfl
    · split
      · exact divide_out _ _ _
      · split
        · exact leap_out _ _ _
        · split
          · rw [leap_out, push_out]
          · split
            · exact push_out _ _ _
            · split
              · rw [move_out, pop_out]
              · split
                · simp only
                  rw [move_out, holds_out]
                · simp only
                  split
                  · rw [leap_out, holds_out]
                  · exact holds_out _ _
theorem none_out (C : Cd) (m : Mach) (w : Str) : (X.none' C m w).out.length ≤ m.out.length + 1 := by
  unfold X.none'
  split
  · simp only
    split
    · rw [halt_out, pop_out]; omega
    · rw [leap_out, pop_out]; omega
  · split
    · exact Nat.le_succ _
    · split
      · split
        · exact Nat.le_succ _
        · exact Nat.le_succ _
      · split
        · simp
        · split
          · rw [halt_out]; omega
          · split
            · rw [halt_out]; omega
            · omega
theorem step_out (C : Cd) (m : Mach) : (X.step C m).out.length ≤ m.out.length + 1 := by
  unfold X.step
  split
  · rw [halt_out]; omega
  · simp only
    split
    · rw [two_out]; exact Nat.le_succ _
    · rw [one_out]; exact Nat.le_succ _
    · exact none_out C { m with at_ := m.at_ + 1 } _
/-! ### Words -/
theorem forms_len : (formsTab.all fun p => decide (p.1.length ≤ 8)) = true := by decide
theorem conds_len : ∀ c ∈ conds, c.length ≤ 2 := by decide
theorem wordOfWays_len {word : Str} (h : X.ways word ≠ []) : word.length ≤ 8 := by
  unfold X.ways at h
  have key : ∀ p : Str, p.length ≤ 3 → Lib.hasPrefix word p = true → conds.contains (Lib.trimPrefix word p) = true → word.length ≤ 8 := by
    intro p hp h1 h2
    obtain ⟨r, rfl⟩ := hasPrefix_append h1
    have e : Lib.trimPrefix (p ++ r) p = r := by unfold Lib.trimPrefix; rw [h1, if_pos rfl]; simp
    rw [e] at h2
    have := conds_len r (by simpa using h2)
    rw [List.length_append]
    omega
  split at h
  · rename_i w e
    exact of_decide_eq_true (List.all_eq_true.1 forms_len _ (lookup_mem e))
  · split at h
    · rename_i e
      rw [Bool.and_eq_true] at e
      exact key _ (by decide) e.1 e.2
    · split at h
      · rename_i e
        rw [Bool.and_eq_true] at e
        exact key _ (by decide) e.1 e.2
      · exact absurd rfl h
theorem tryWays_word {word : Str} {labels : List (Str × Int)} {vars : List (Str × (Int × Int))} {args : List Str} : ∀ {ws : List (List Str)}, (tryWays labels vars word args ws).2 = true → ws ≠ [] ∧ (tryWays labels vars word args ws).1.word = word
  | [], h => by cases h
  | way :: ws, h => by
    refine ⟨by simp, ?_⟩
    unfold tryWays at h ⊢
    split at h
    · rename_i e; rw [if_pos e]; exact (tryWays_word h).2
    · rename_i e; rw [if_neg e]
      split at h
      · rename_i e2; rw [if_pos e2]
      · rename_i e2; rw [if_neg e2]; exact (tryWays_word h).2
theorem instruction_len {labels : List (Str × Int)} {vars : List (Str × (Int × Int))} {s : Str} (h : (X.instruction labels vars s).2 = true) : (X.instruction labels vars s).1.word.length ≤ 8 := by
  unfold X.instruction at h ⊢
  simp only at h ⊢
  split at h
  · cases h
  · rename_i e; rw [if_neg e]
    have := tryWays_word h
    rw [this.2]
    exact wordOfWays_len this.1
theorem readLine_len {g : Gt} {i : Nat} {r : Rd} (h : ∀ l ∈ r.lines, l.word.length ≤ 8) (x : Str) : ∀ l ∈ (readLine g i r x).lines, l.word.length ≤ 8 := by
  unfold readLine
  simp only
  split
  · split
    · exact h
    · rename_i e
      simp only [Bool.or_eq_true, Bool.not_eq_true', not_or, Bool.not_eq_false] at e
      intro l hl
      simp only [List.mem_append, List.mem_singleton] at hl
      rcases hl with hl | rfl
      · exact h l hl
      · exact instruction_len e.1
  · split
    · split <;> exact h
    · split <;> exact h
theorem readLines_len {g : Gt} : ∀ (ls : List Str) {i : Nat} {r : Rd}, (∀ l ∈ r.lines, l.word.length ≤ 8) → ∀ l ∈ (readLines g i ls r).lines, l.word.length ≤ 8
  | [], i, r, h => h
  | x :: xs, i, r, h => by
    unfold readLines
    split
    · exact readLine_len h x
    · exact readLines_len xs (readLine_len h x)
theorem read_len {s : Str} {C : Cd} (h : X.read s = .ok C) : ∀ l ∈ C.lines, l.word.length ≤ 8 := by
  rw [read_eq] at h
  obtain ⟨g, hg⟩ : ∃ g, gather 0 (splitOn 10 s).dropLast gather0 = g := ⟨_, rfl⟩
  rw [hg] at h
  have R := readLines_len (g := g) (splitOn 10 s).dropLast (i := 0) (r := ⟨[], List.replicate (g.at_ - 65536).toNat 0, 0, false⟩) (fun l hl => by cases hl)
  obtain ⟨r, hr⟩ : ∃ r, readLines g 0 (splitOn 10 s).dropLast ⟨[], List.replicate (g.at_ - 65536).toNat 0, 0, false⟩ = r := ⟨_, rfl⟩
  rw [hr] at h R
  unfold readEnd at h
  split at h
  · cases h
  · split at h
    · cases h
    · split at h
      · cases h
      · have e : (⟨s, r.lines, g.labels, g.vars, r.data, g.spans⟩ : Cd) = C := Except.ok.inj h
        subst e
        exact R
end Go.Proofs.YtfkfdffhajokkaaGreatDoor
/- How package x86's machine reads and puts out a byte, and comes to the end of its lines; what a step of it answers; conditions: a machine that lies in memory, lines as they are read, an output shorter than 2^32. -/
namespace Go.Proofs.YtfkfdffhajokkaaGreatDoor
open Go.RowKit X
set_option linter.unusedSimpArgs false
set_option maxHeartbeats 4000000 in
set_option maxRecDepth 100000 in
theorem step_in0 (w0 w : World) (L : Lay) (C : Cd) (m : Mach) (vi vo : Value) (K : LOk w0 L C) (h : MAt w0 w L C m vi vo) (i : Nat) (hat : m.at_ = i) (hi : i < C.lines.length) (l : Ln) (hl : C.lines.getD i ⟨[], []⟩ = l) (n1 : l.ops.length ≠ 1) (n2 : l.ops.length ≠ 2) (hw : l.word = [115, 121, 115, 105, 110]) (he : m.input = []) :
    Calls Tryz.prog 55 #[.pointer (some ⟨L.mb, 0, none⟩)] w fun e w' => StpRet w0 L C e w' (X.none' C { m with at_ := (i : Int) + 1 } l.word) := by
  obtain ⟨R, hR⟩ : ∃ R, X.none' C { m with at_ := (i : Int) + 1 } l.word = R := ⟨_, rfl⟩
  rw [hR]
  have z1 := Lib.hid (show ((l.ops.length : Int) == 1) = false from beq_f (by omega))
  have z2 := Lib.hid (show ((l.ops.length : Int) == 2) = false from beq_f (by omega))
  clear n1 n2
  unfold X.none' at hR; rw [if_neg (by rw [hw]; decide), if_neg (by rw [hw]; decide), if_pos hw] at hR
  have t0 := Lib.hid (show (l.word == [114, 101, 116]) = false from neq_beq (by rw [hw]; decide))
  have t1 := Lib.hid (show (l.word == [99, 113, 116, 111]) = false from neq_beq (by rw [hw]; decide))
  have t2 := Lib.hid (show (l.word == [115, 121, 115, 105, 110]) = true from beq_iff_eq.2 hw)
  replace hR : setReg { m with at_ := (i : Int) + 1 } 0 (-1) = R := by rw [← hR]; simp only [he]
  replace hR := Lib.hid hR
  clear hw
  obtain ⟨g, cap, v, LA0⟩ := line_at K hi
  rw [hl] at LA0
  obtain ⟨BL, hops⟩ := LA0.ops
  obtain ⟨adv, capv, rfl, -⟩ := ownsRow_at hops
  have LA := LA0.below h.below
  have hx := h.box.cell
  have hf := h.box.frozen
  have hmb := h.box.lt
  have hrows := LA.rows
  have hword := LA.word
  have hv := LA.vcell
  have hi' : (i : Int) < (C.lines.length : Int) := by omega
  have hln := K.lines
  have hwr : IntKind.i64.wrap ((i : Int) + 1) = (i : Int) + 1 := by rw [IntKind.wrap_i64]; omega
  have hh := Lib.hid h
  have hc0 : w.cell? ⟨L.mb, 0, none⟩ = some (.pointer (some ⟨L.p, 0, none⟩)) := by rw [hx]; rfl
  have hc17 : w.cell? ⟨L.mb, 17, none⟩ = some (.int .i64 (i : Int)) := by rw [hx, ← hat]; rfl
  clear hx
  go_enter Tryz.func55, Tryz.ntmps55
  go_wp2_with fail
  go_quiet (fail)
  go_wp2_with fail
  go_cut [2] (fun s2 wx => s2 = .pointer (some ⟨w.heap.size, 0, none⟩) ∧ Bx wx w.heap.size #[.string (St l.word), .slice adv l.ops.length capv] 75 ∧ MAt w0 wx L C m vi vo ∧ Kp L.S w wx)
  case first =>
    have hnb : ∀ (k j : Nat), ((w.drewN k).alloc (.cells #[.string ⟨#[]⟩, .slice none 0 0] 75)).cell? ⟨w.heap.size, j, none⟩ = (#[.string ⟨#[]⟩, .slice none 0 0] : Array Value)[j]? := fun k j => (Bx.new (w := w.drewN k) (c := #[.string ⟨#[]⟩, .slice none 0 0]) (T := 75)).cell j
    have hnf : ∀ (k j : Nat), ((w.drewN k).alloc (.cells #[.string ⟨#[]⟩, .slice none 0 0] 75)).frozen? ⟨w.heap.size, j, none⟩ = false := fun k j => (Bx.new (w := w.drewN k) (c := #[.string ⟨#[]⟩, .slice none 0 0]) (T := 75)).frozen j
    go_region_held3 (fun w' => w'.cell? ⟨L.mb, 0, none⟩ = some (.pointer (some ⟨L.p, 0, none⟩)) ∧ w'.cell? ⟨L.mb, 17, none⟩ = some (.int .i64 (i : Int)) ∧ w'.cell? ⟨L.p, 1, none⟩ = some (.slice (some ⟨g, 0, none⟩) C.lines.length cap) ∧ w'.cell? ⟨g, i * 2, none⟩ = some (.string (St l.word)) ∧ w'.cell? ⟨g, i * 2 + 1, none⟩ = some (.slice adv l.ops.length capv)) ((refine fetch_held (hh.out.on ?_) (LA.below ?_) hat; all_goals ((repeat' (first | with_reducible assumption | with_reducible exact Below.refl _ _ | (with_reducible refine below_drewN ?_ _) | (with_reducible refine Below.drew ?_) | (with_reducible refine balloc ?_ _) | (with_reducible refine Below.setCell ?_ (by first | exact Nat.le_refl _ | (simp; done) | omega | (simp; omega)) _) | (with_reducible refine bstep ?_ (by with_reducible assumption))))))) (fail)
    all_goals
      go_wp2_with fail
      go_meet
      refine ⟨rfl, ?_, ?_, ?_⟩
      · exact Bx.set (i := 1) (v := .slice adv l.ops.length capv) (Bx.set (i := 0) (v := .string (St l.word)) (Bx.new (w := w.drewN (nq + 1)) (c := #[.string ⟨#[]⟩, .slice none 0 0]) (T := 75)))
      · exact hh.out.on (by (repeat' (first | with_reducible assumption | with_reducible exact Below.refl _ _ | (with_reducible refine below_drewN ?_ _) | (with_reducible refine Below.drew ?_) | (with_reducible refine balloc ?_ _) | (with_reducible refine Below.setCell ?_ (by first | exact Nat.le_refl _ | (simp; done) | omega | (simp; omega)) _) | (with_reducible refine bstep ?_ (by with_reducible assumption)))))
      · exact Kp.of_below (by (repeat' (first | with_reducible assumption | with_reducible exact Below.refl _ _ | (with_reducible refine below_drewN ?_ _) | (with_reducible refine Below.drew ?_) | (with_reducible refine balloc ?_ _) | (with_reducible refine Below.setCell ?_ (by first | exact Nat.le_refl _ | (simp; done) | omega | (simp; omega)) _) | (with_reducible refine bstep ?_ (by with_reducible assumption)))))
  case rest =>
    obtain ⟨rfl, X2, M2, K2⟩ := hcut
    clear hc0 hc17 hrows hword hv hf hh LA
    have hf2 := M2.box.frozen
    have hne2 : w.heap.size ≠ L.mb := by omega
    have hc17b : wc.cell? ⟨L.mb, 17, none⟩ = some (.int .i64 (i : Int)) := by rw [M2.box.cell, ← hat]; rfl
    have A1 := M2.put (m' := { m with at_ := (i : Int) + 1 }) K 17 (.int .i64 ((i : Int) + 1)) rfl M2.inp rfl rfl rfl rfl ⟨M2.ok.regs, M2.ok.x, M2.ok.y, by simp only; omega, by simp only; omega, M2.ok.kind, M2.ok.code, M2.ok.least⟩
    have X3 : Bx (wc.setCell ⟨L.mb, 17, none⟩ (.int .i64 ((i : Int) + 1))) w.heap.size #[.string (St l.word), .slice adv l.ops.length capv] 75 := X2.other hne2
    have K3 : Kp L.S w (wc.setCell ⟨L.mb, 17, none⟩ (.int .i64 ((i : Int) + 1))) := K2.setCell _ (.inl L.mb_S)
    have A1 := Lib.hid A1
    have X3 := Lib.hid X3
    have K3 := Lib.hid K3
    clear X2 M2 K2
    go_upto_region 4 with fail
    generalize wc.setCell ⟨L.mb, 17, none⟩ (.int .i64 ((i : Int) + 1)) = wd at *
    clear hf2 hc17b
    have A1 := A1.out
    have X3 := X3.out
    have LA := LA0.below A1.below
    obtain ⟨BD, hopd⟩ := LA.ops
    have hx3 := X3.cell
    replace z1 := z1.out
    replace z2 := z2.out
    replace t0 := t0.out
    replace t1 := t1.out
    replace t2 := t2.out
    have hx1 := A1.box.cell
    have hf1 := A1.box.frozen
    obtain ⟨adi, capi, hvi, -⟩ := A1.inp
    rw [he] at hvi
    simp only [List.length_nil] at hvi
    subst hvi
    have A2 := A1.put (m' := setReg { m with at_ := (i : Int) + 1 } 0 (-1)) K 1 (.int .i64 (-1)) rfl A1.inp rfl rfl rfl rfl (A1.ok.setReg 0 (by unfold In64; omega))
    replace A2 := Lib.hid A2
    clear he
    go_wp2_with fail
    refine bodyPost_end (v := .tuple #[]) (by simp [results, Tryz.results55, go_sem]) rfl ?_
    rw [← hR.out]
    exact ⟨rfl, _, _, A2.out⟩
set_option maxHeartbeats 4000000 in
set_option maxRecDepth 100000 in
theorem step_in1 (w0 w : World) (L : Lay) (C : Cd) (m : Mach) (vi vo : Value) (K : LOk w0 L C) (h : MAt w0 w L C m vi vo) (i : Nat) (hat : m.at_ = i) (hi : i < C.lines.length) (l : Ln) (hl : C.lines.getD i ⟨[], []⟩ = l) (n1 : l.ops.length ≠ 1) (n2 : l.ops.length ≠ 2) (hw : l.word = [115, 121, 115, 105, 110]) (b : UInt8) (r : List UInt8) (he : m.input = b :: r) :
    Calls Tryz.prog 55 #[.pointer (some ⟨L.mb, 0, none⟩)] w fun e w' => StpRet w0 L C e w' (X.none' C { m with at_ := (i : Int) + 1 } l.word) := by
  obtain ⟨R, hR⟩ : ∃ R, X.none' C { m with at_ := (i : Int) + 1 } l.word = R := ⟨_, rfl⟩
  rw [hR]
  have z1 := Lib.hid (show ((l.ops.length : Int) == 1) = false from beq_f (by omega))
  have z2 := Lib.hid (show ((l.ops.length : Int) == 2) = false from beq_f (by omega))
  clear n1 n2
  unfold X.none' at hR; rw [if_neg (by rw [hw]; decide), if_neg (by rw [hw]; decide), if_pos hw] at hR
  have t0 := Lib.hid (show (l.word == [114, 101, 116]) = false from neq_beq (by rw [hw]; decide))
  have t1 := Lib.hid (show (l.word == [99, 113, 116, 111]) = false from neq_beq (by rw [hw]; decide))
  have t2 := Lib.hid (show (l.word == [115, 121, 115, 105, 110]) = true from beq_iff_eq.2 hw)
  replace hR : { setReg { m with at_ := (i : Int) + 1 } 0 (b.toNat : Int) with input := r } = R := by rw [← hR]; simp only [he]
  replace hR := Lib.hid hR
  clear hw
  obtain ⟨g, cap, v, LA0⟩ := line_at K hi
  rw [hl] at LA0
  obtain ⟨BL, hops⟩ := LA0.ops
  obtain ⟨adv, capv, rfl, -⟩ := ownsRow_at hops
  have LA := LA0.below h.below
  have hx := h.box.cell
  have hf := h.box.frozen
  have hmb := h.box.lt
  have hrows := LA.rows
  have hword := LA.word
  have hv := LA.vcell
  have hi' : (i : Int) < (C.lines.length : Int) := by omega
  have hln := K.lines
  have hwr : IntKind.i64.wrap ((i : Int) + 1) = (i : Int) + 1 := by rw [IntKind.wrap_i64]; omega
  have hh := Lib.hid h
  have hc0 : w.cell? ⟨L.mb, 0, none⟩ = some (.pointer (some ⟨L.p, 0, none⟩)) := by rw [hx]; rfl
  have hc17 : w.cell? ⟨L.mb, 17, none⟩ = some (.int .i64 (i : Int)) := by rw [hx, ← hat]; rfl
  clear hx
  go_enter Tryz.func55, Tryz.ntmps55
  go_wp2_with fail
  go_quiet (fail)
  go_wp2_with fail
  go_cut [2] (fun s2 wx => s2 = .pointer (some ⟨w.heap.size, 0, none⟩) ∧ Bx wx w.heap.size #[.string (St l.word), .slice adv l.ops.length capv] 75 ∧ MAt w0 wx L C m vi vo ∧ Kp L.S w wx)
  case first =>
    have hnb : ∀ (k j : Nat), ((w.drewN k).alloc (.cells #[.string ⟨#[]⟩, .slice none 0 0] 75)).cell? ⟨w.heap.size, j, none⟩ = (#[.string ⟨#[]⟩, .slice none 0 0] : Array Value)[j]? := fun k j => (Bx.new (w := w.drewN k) (c := #[.string ⟨#[]⟩, .slice none 0 0]) (T := 75)).cell j
    have hnf : ∀ (k j : Nat), ((w.drewN k).alloc (.cells #[.string ⟨#[]⟩, .slice none 0 0] 75)).frozen? ⟨w.heap.size, j, none⟩ = false := fun k j => (Bx.new (w := w.drewN k) (c := #[.string ⟨#[]⟩, .slice none 0 0]) (T := 75)).frozen j
    go_region_held3 (fun w' => w'.cell? ⟨L.mb, 0, none⟩ = some (.pointer (some ⟨L.p, 0, none⟩)) ∧ w'.cell? ⟨L.mb, 17, none⟩ = some (.int .i64 (i : Int)) ∧ w'.cell? ⟨L.p, 1, none⟩ = some (.slice (some ⟨g, 0, none⟩) C.lines.length cap) ∧ w'.cell? ⟨g, i * 2, none⟩ = some (.string (St l.word)) ∧ w'.cell? ⟨g, i * 2 + 1, none⟩ = some (.slice adv l.ops.length capv)) ((refine fetch_held (hh.out.on ?_) (LA.below ?_) hat; all_goals ((repeat' (first | with_reducible assumption | with_reducible exact Below.refl _ _ | (with_reducible refine below_drewN ?_ _) | (with_reducible refine Below.drew ?_) | (with_reducible refine balloc ?_ _) | (with_reducible refine Below.setCell ?_ (by first | exact Nat.le_refl _ | (simp; done) | omega | (simp; omega)) _) | (with_reducible refine bstep ?_ (by with_reducible assumption))))))) (fail)
    all_goals
      go_wp2_with fail
      go_meet
      refine ⟨rfl, ?_, ?_, ?_⟩
      · exact Bx.set (i := 1) (v := .slice adv l.ops.length capv) (Bx.set (i := 0) (v := .string (St l.word)) (Bx.new (w := w.drewN (nq + 1)) (c := #[.string ⟨#[]⟩, .slice none 0 0]) (T := 75)))
      · exact hh.out.on (by (repeat' (first | with_reducible assumption | with_reducible exact Below.refl _ _ | (with_reducible refine below_drewN ?_ _) | (with_reducible refine Below.drew ?_) | (with_reducible refine balloc ?_ _) | (with_reducible refine Below.setCell ?_ (by first | exact Nat.le_refl _ | (simp; done) | omega | (simp; omega)) _) | (with_reducible refine bstep ?_ (by with_reducible assumption)))))
      · exact Kp.of_below (by (repeat' (first | with_reducible assumption | with_reducible exact Below.refl _ _ | (with_reducible refine below_drewN ?_ _) | (with_reducible refine Below.drew ?_) | (with_reducible refine balloc ?_ _) | (with_reducible refine Below.setCell ?_ (by first | exact Nat.le_refl _ | (simp; done) | omega | (simp; omega)) _) | (with_reducible refine bstep ?_ (by with_reducible assumption)))))
  case rest =>
    obtain ⟨rfl, X2, M2, K2⟩ := hcut
    clear hc0 hc17 hrows hword hv hf hh LA
    have hf2 := M2.box.frozen
    have hne2 : w.heap.size ≠ L.mb := by omega
    have hc17b : wc.cell? ⟨L.mb, 17, none⟩ = some (.int .i64 (i : Int)) := by rw [M2.box.cell, ← hat]; rfl
    have A1 := M2.put (m' := { m with at_ := (i : Int) + 1 }) K 17 (.int .i64 ((i : Int) + 1)) rfl M2.inp rfl rfl rfl rfl ⟨M2.ok.regs, M2.ok.x, M2.ok.y, by simp only; omega, by simp only; omega, M2.ok.kind, M2.ok.code, M2.ok.least⟩
    have X3 : Bx (wc.setCell ⟨L.mb, 17, none⟩ (.int .i64 ((i : Int) + 1))) w.heap.size #[.string (St l.word), .slice adv l.ops.length capv] 75 := X2.other hne2
    have K3 : Kp L.S w (wc.setCell ⟨L.mb, 17, none⟩ (.int .i64 ((i : Int) + 1))) := K2.setCell _ (.inl L.mb_S)
    have A1 := Lib.hid A1
    have X3 := Lib.hid X3
    have K3 := Lib.hid K3
    clear X2 M2 K2
    go_upto_region 4 with fail
    generalize wc.setCell ⟨L.mb, 17, none⟩ (.int .i64 ((i : Int) + 1)) = wd at *
    clear hf2 hc17b
    have A1 := A1.out
    have X3 := X3.out
    have LA := LA0.below A1.below
    obtain ⟨BD, hopd⟩ := LA.ops
    have hx3 := X3.cell
    replace z1 := z1.out
    replace z2 := z2.out
    replace t0 := t0.out
    replace t1 := t1.out
    replace t2 := t2.out
    obtain ⟨adi, capi, hvi, hci, hin⟩ := A1.inp
    have he2 : ({ m with at_ := (i : Int) + 1 } : Mach).input = b :: r := he
    rw [he2] at hvi hci hin
    simp only [List.length_cons] at hvi hci hin
    obtain ⟨bi, oi, rfl, hcell⟩ := hin (by omega)
    subst hvi
    have hbt := b.toNat_lt
    have hb0 := cell_below A1.below (hcell 0 (by omega))
    have hlen1 : (0 : Int) < ((r.length + 1 : Nat) : Int) := by omega
    have hcap1 : (1 : Int) ≤ (capi : Int) := by omega
    have hA1 := Lib.hid A1
    have A2 := A1.put (m' := setReg { m with at_ := (i : Int) + 1 } 0 (-1)) K 1 (.int .i64 (-1)) rfl A1.inp rfl rfl rfl rfl (A1.ok.setReg 0 (by unfold In64; omega))
    have A3 := A2.put (m' := setReg { m with at_ := (i : Int) + 1 } 0 (b.toNat : Int)) K 1 (.int .i64 (b.toNat : Int)) rfl A1.inp rfl rfl rfl rfl (A1.ok.setReg 0 (by unfold In64; omega))
    have hb2 := cell_below A2.below (hcell 0 (by omega))
    simp only [Nat.add_zero, List.getD_cons_zero] at hb0 hb2
    have hx1 := A1.box.cell
    have hf1 := A1.box.frozen
    have hx2 := A2.box.cell
    have hf2 := A2.box.frozen
    have hx3 := A3.box.cell
    have hf3 := A3.box.frozen
    have I1 := fun (hc1 : ¬ capi = 1) => A3.put (m' := { setReg { m with at_ := (i : Int) + 1 } 0 (b.toNat : Int) with input := r }) K 23 (.slice (some ⟨bi, oi + 1, none⟩) r.length (capi - 1)) rfl ⟨_, capi - 1, rfl, by show r.length ≤ _; omega, fun hr => ⟨bi, oi + 1, rfl, fun k hk => by
      have hk2 : k < r.length := hk
      rw [show oi + 1 + k = oi + (k + 1) by omega, hcell (k + 1) (by omega), List.getD_cons_succ]⟩⟩ rfl rfl rfl rfl ⟨A3.ok.regs, A3.ok.x, A3.ok.y, A3.ok.at0, A3.ok.at1, A3.ok.kind, A3.ok.code, A3.ok.least⟩
    have I2 := fun (hc1 : capi = 1) => A3.put (m' := { setReg { m with at_ := (i : Int) + 1 } 0 (b.toNat : Int) with input := r }) K 23 (.slice (some ⟨bi, oi, none⟩) r.length 0) rfl ⟨_, 0, rfl, by show r.length ≤ _; omega, fun hr => absurd hr (by show ¬ 0 < r.length; omega)⟩ rfl rfl rfl rfl ⟨A3.ok.regs, A3.ok.x, A3.ok.y, A3.ok.at0, A3.ok.at1, A3.ok.kind, A3.ok.code, A3.ok.least⟩
    replace I1 := Lib.hid I1
    replace I2 := Lib.hid I2
    clear he he2 hA1
    go_wp2_with fail
    go_region
    go_wp2_with fail
    all_goals
      refine bodyPost_end (v := .tuple #[]) (by simp [results, Tryz.results55, go_sem]) rfl ?_
      rw [← hR.out]
      first
        | exact ⟨rfl, _, _, (I1.out (by assumption)).on (Below.drew (Below.refl _ _))⟩
        | exact ⟨rfl, _, _, (I2.out (by assumption)).on (Below.drew (Below.refl _ _))⟩
end Go.Proofs.YtfkfdffhajokkaaGreatDoor
