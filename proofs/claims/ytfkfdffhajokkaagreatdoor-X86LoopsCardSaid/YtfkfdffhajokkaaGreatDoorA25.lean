/- What lines, names and data are like that package x86 has read; in plain Lean; conditions: a text of at most 1048575 bytes. -/
import Derived.Test.YtfkfdffhajokkaaGreatDoorA24
namespace Go.Proofs.YtfkfdffhajokkaaGreatDoor
open Go.RowKit X
set_option linter.unusedSimpArgs false
/-- What is asked of an instruction of two operands. -/
structure TwoOk (word : Str) (a b : Opd) : Prop where
  oa : OpOk a
  ob : OpOk b
  reg : (sumTab.lookup word).isSome = true ∨ word = ([99, 109, 112, 113] : Str) ∨ word = ([116, 101, 115, 116, 113] : Str) → b.kind ≠ 3
  test : word = ([116, 101, 115, 116, 113] : Str) → a.kind ≠ 3
  lea : word = ([108, 101, 97, 113] : Str) → a.kind = 3 ∨ a.kind = 4
/-- What is asked of an instruction of one. -/
structure OneOk (word : Str) (o : Opd) : Prop where
  oo : OpOk o
  kind : o.kind ≠ 3
  word : 1 ≤ word.length
def OpsOk (word : Str) : List Opd → Prop
  | [a, b] => TwoOk word a b
  | [o] => OneOk word o
  | _ => True
def LineOk (l : Ln) : Prop := OpsOk l.word l.ops
theorem find_lt (s : Str) : ∀ (l : List Str) (k : Nat), find s k l < k + l.length
  | [], k => by unfold find; simp only [List.length_nil]; omega
  | n :: r, k => by
    unfold find
    split
    · simp only [List.length_cons]; omega
    · have := find_lt s r (k + 1); simp only [List.length_cons]; omega
theorem register_lt (s : Str) (b : Int) : register s b < 16 := by
  have h := find_lt s (names b) 0
  have h2 : (names b).length ≤ 16 := by
    unfold names
    split
    · decide
    · split
      · decide
      · split
        · decide
        · split <;> decide
  unfold register
  omega
theorem OpOk.reg_of {k r b n x sc : Int} {nm : Str} (h0 : 0 ≤ r) (h1 : r < 16) (hx : x < 16) (hn : In64 n) (hs : In64 sc) : OpOk ⟨k, r, b, n, x, sc, nm⟩ := ⟨fun _ => ⟨h0, h1⟩, hx, hn, hs⟩
theorem in0 : In64 0 := by unfold In64; omega
theorem wide_ok {s : Str} (h : (wide s).2 = true) : OpOk (wide s).1 := by
  have h : 0 ≤ register s 8 := of_decide_eq_true h
  exact OpOk.reg_of h (register_lt _ _) (by decide) in0 in0
theorem part_ok {s : Str} {b : Int} (h : (X.part s b).2 = true) : OpOk (X.part s b).1 := by
  have h : 0 ≤ register s b := of_decide_eq_true h
  exact OpOk.reg_of h (register_lt _ _) (by decide) in0 in0
theorem immediate_ok {s : Str} {b : Nat} (hb : b = 32 ∨ b = 64) : OpOk (immediate s b).1 := OpOk.reg_of (by decide) (by decide) (by decide) (number_in64 _ b hb) in0
theorem named_ne {s : Str} (h : named s = true) : s ≠ [] := by
  rintro rfl
  exact absurd h (by decide)
theorem memVar_ok {s : Str} (h : (memVar s).2 = true) : OpOk (memVar s).1 ∧ (memVar s).1.kind = 3 := by
  unfold memVar at h ⊢
  simp only [Bool.and_eq_true] at h
  have hn := named_ne h.2
  refine ⟨⟨fun h2 => ?_, by show (-1 : Int) < 16; decide, ?_, in0⟩, rfl⟩
  · rcases h2 with h2 | h2
    · exact absurd rfl h2
    · exact absurd h2 hn
  · simp only
    split
    · exact number_in64 _ 32 (.inl rfl)
    · exact in0
theorem memReg_ok {n : Int} {s : Str} (hn : In64 n) (h : (memReg n s).2 = true) : OpOk (memReg n s).1 ∧ (memReg n s).1.kind = 3 := by
  unfold memReg at h ⊢
  simp only at h ⊢
  split at h
  · rename_i h3
    rw [if_pos h3]
    simp only [Bool.and_eq_true, decide_eq_true_eq] at h
    exact ⟨OpOk.reg_of h.1.1.1.2 (register_lt _ _) (register_lt _ _) hn (number_in64 _ 32 (.inl rfl)), rfl⟩
  · rename_i h3
    rw [if_neg h3]
    simp only [Bool.and_eq_true, decide_eq_true_eq] at h
    exact ⟨OpOk.reg_of h.2 (register_lt _ _) (by decide) hn in0, rfl⟩
theorem memory_ok {s : Str} (h : (X.memory s).2 = true) : OpOk (X.memory s).1 ∧ (X.memory s).1.kind = 3 := by
  unfold X.memory at h ⊢
  simp only at h ⊢
  split at h
  · cases h
  · rename_i h1
    rw [if_neg h1]
    split at h
    · rename_i h2
      rw [if_pos h2]
      exact memVar_ok h
    · rename_i h2
      rw [if_neg h2]
      split at h
      · rename_i h4
        rw [if_pos h4]
        exact memReg_ok in0 h
      · rename_i h4
        rw [if_neg h4]
        split at h
        · cases h
        · rename_i h5
          rw [if_neg h5]
          exact memReg_ok (number_in64 _ 32 (.inl rfl)) h
/-- What an operand of a form is like. -/
structure FormOk (f : UInt8) (o : Opd) : Prop where
  ok : OpOk o
  mem : o.kind = 3 → f = 77
  m : f = 77 → o.kind = 3
  p : f = 80 → o.kind = 4
theorem takeOne_ok {f : UInt8} {s : Str} (h : (takeOne f s).2 = true) : FormOk f (takeOne f s).1 := by
  by_cases e73 : f = 73
  · subst e73
    have e : takeOne 73 s = immediate s 32 := rfl
    rw [e] at h ⊢
    exact ⟨immediate_ok (.inl rfl), fun e => absurd (show (2 : Int) = 3 from e) (by decide), fun e => absurd e (by decide), fun e => absurd e (by decide)⟩
  by_cases e74 : f = 74
  · subst e74
    have e : takeOne 74 s = immediate s 64 := rfl
    rw [e] at h ⊢
    exact ⟨immediate_ok (.inr rfl), fun e => absurd (show (2 : Int) = 3 from e) (by decide), fun e => absurd e (by decide), fun e => absurd e (by decide)⟩
  by_cases e83 : f = 83
  · subst e83
    exact ⟨immediate_ok (.inl rfl), fun e => absurd (show (2 : Int) = 3 from e) (by decide), fun e => absurd e (by decide), fun e => absurd e (by decide)⟩
  by_cases e82 : f = 82
  · subst e82
    have e : takeOne 82 s = wide s := rfl
    rw [e] at h ⊢
    exact ⟨wide_ok h, fun e => absurd (show (1 : Int) = 3 from e) (by decide), fun e => absurd e (by decide), fun e => absurd e (by decide)⟩
  by_cases e77 : f = 77
  · subst e77
    have e : takeOne 77 s = X.memory s := rfl
    rw [e] at h ⊢
    exact ⟨(memory_ok h).1, fun _ => rfl, fun _ => (memory_ok h).2, fun e => absurd e (by decide)⟩
  by_cases e98 : f = 98
  · subst e98
    have e : takeOne 98 s = X.part s 1 := rfl
    rw [e] at h ⊢
    exact ⟨part_ok h, fun e => absurd (show (1 : Int) = 3 from e) (by decide), fun e => absurd e (by decide), fun e => absurd e (by decide)⟩
  by_cases e119 : f = 119
  · subst e119
    have e : takeOne 119 s = X.part s 2 := rfl
    rw [e] at h ⊢
    exact ⟨part_ok h, fun e => absurd (show (1 : Int) = 3 from e) (by decide), fun e => absurd e (by decide), fun e => absurd e (by decide)⟩
  by_cases e108 : f = 108
  · subst e108
    have e : takeOne 108 s = X.part s 4 := rfl
    rw [e] at h ⊢
    exact ⟨part_ok h, fun e => absurd (show (1 : Int) = 3 from e) (by decide), fun e => absurd e (by decide), fun e => absurd e (by decide)⟩
  by_cases e66 : f = 66
  · subst e66
    exact ⟨part_ok (Bool.and_eq_true_iff.1 h).1, fun e => absurd (show (1 : Int) = 3 from e) (by decide), fun e => absurd e (by decide), fun e => absurd e (by decide)⟩
  by_cases e76 : f = 76
  · subst e76
    exact ⟨OpOk.reg_of (by decide) (by decide) (by decide) in0 in0, fun e => absurd (show (4 : Int) = 3 from e) (by decide), fun e => absurd e (by decide), fun e => absurd e (by decide)⟩
  by_cases e80 : f = 80
  · subst e80
    exact ⟨OpOk.reg_of (by decide) (by decide) (by decide) in0 in0, fun e => absurd (show (4 : Int) = 3 from e) (by decide), fun e => absurd e (by decide), fun _ => rfl⟩
  by_cases e42 : f = 42
  · subst e42
    have w := wide_ok (Bool.and_eq_true_iff.1 h).1
    exact ⟨⟨fun _ => w.reg (.inl (show (1 : Int) ≠ 3 by decide)), w.x, w.n, w.scale⟩, fun e => absurd (show (5 : Int) = 3 from e) (by decide), fun e => absurd e (by decide), fun e => absurd e (by decide)⟩
  have e : takeOne f s = (Opd.zero, false) := by unfold takeOne; rw [if_neg e73, if_neg e74, if_neg e83, if_neg e82, if_neg e77, if_neg e98, if_neg e119, if_neg e108, if_neg e66, if_neg e76, if_neg e80, if_neg e42]
  rw [e] at h
  cases h
theorem take_ok {s : Str} : ∀ {fs : Str}, (take s fs).2 = true → ∃ f ∈ fs, FormOk f (take s fs).1
  | [], h => by cases h
  | f :: r, h => by
    unfold take at h ⊢
    split at h
    · rename_i e; rw [if_pos e]; exact ⟨f, by simp, takeOne_ok e⟩
    · rename_i e; rw [if_neg e]
      obtain ⟨g, h1, h2⟩ := take_ok h
      exact ⟨g, by simp [h1], h2⟩
/-- What a way of an instruction's operands asks, told by a look at the table. -/
def wayOk (word : Str) (way : List Str) : Bool :=
  match way with
  | [a, b] => (!((sumTab.lookup word).isSome || word == ([99, 109, 112, 113] : Str) || word == ([116, 101, 115, 116, 113] : Str)) || !b.contains 77) && (!(word == ([116, 101, 115, 116, 113] : Str)) || !a.contains 77) && (!(word == ([108, 101, 97, 113] : Str)) || a.all fun f => f == 77 || f == 80)
  | [a] => !a.contains 77 && !word.isEmpty
  | _ => true
theorem forms_ok : (formsTab.all fun p => p.2.all fun w => wayOk p.1 w) = true := by decide
theorem lookup_mem {α : Type} : ∀ {l : List (Str × α)} {k : Str} {v : α}, l.lookup k = some v → (k, v) ∈ l
  | [], _, _, h => by cases h
  | (a, b) :: l, k, v, h => by
    rw [List.lookup_cons] at h
    split at h
    · rename_i e; cases h; rw [beq_iff_eq] at e; subst e; simp
    · exact List.mem_cons_of_mem _ (lookup_mem h)
theorem ways_ok (word : Str) : ∀ way ∈ X.ways word, wayOk word way = true := by
  intro way hw
  unfold X.ways at hw
  split at hw
  · rename_i w e
    have h := List.all_eq_true.1 forms_ok _ (lookup_mem e)
    exact List.all_eq_true.1 h way hw
  · have hne : ∀ p : Str, Lib.hasPrefix word p = true → p ≠ [] → word.isEmpty = false := by
      intro p h hp
      obtain ⟨r, rfl⟩ := hasPrefix_append h
      cases p with
      | nil => exact absurd rfl hp
      | cons c t => rfl
    split at hw
    · rename_i e
      simp only [Bool.and_eq_true] at e
      obtain rfl : way = [([98] : Str)] := by simpa using hw
      have := hne _ e.1 (by decide)
      simp [wayOk, this]
    · split at hw
      · rename_i e
        simp only [Bool.and_eq_true] at e
        obtain rfl : way = [([76] : Str)] := by simpa using hw
        have := hne _ e.1 (by decide)
        simp [wayOk, this]
      · cases hw
theorem contains_f {fs : Str} {f : UInt8} (h : fs.contains f = false) : f ∉ fs := by
  intro hm
  rw [List.contains_eq_mem] at h
  simp [hm] at h
theorem way_two {word : Str} {labels : List (Str × Int)} {vars : List (Str × (Int × Int))} {way args : List Str} (hl : way.length = args.length) (hw : wayOk word way = true) (h : (tryWay labels vars way args).2 = true) :
    OpsOk word (tryWay labels vars way args).1 := by
  match way, args with
  | [], _ => trivial
  | f :: way, [] => trivial
  | [f], [a] =>
    simp only [tryWay, Bool.and_eq_true, Bool.and_true] at h ⊢
    obtain ⟨g, hg, ok⟩ := take_ok h.1
    simp only [wayOk, Bool.and_eq_true, Bool.not_eq_true'] at hw
    refine ⟨ok.ok, fun e => ?_, ?_⟩
    · have := ok.mem e
      subst this
      exact contains_f hw.1 hg
    · have h2 := hw.2
      cases word with
      | nil => cases h2
      | cons c t => simp
  | [f], a :: b :: r => simp at hl
  | f1 :: f2 :: way, [a] => simp at hl
  | [f1, f2], [a, b] =>
    simp only [tryWay, Bool.and_eq_true, Bool.and_true] at h ⊢
    obtain ⟨g1, hg1, ok1⟩ := take_ok h.1.1
    obtain ⟨g2, hg2, ok2⟩ := take_ok h.2.1
    simp only [wayOk, Bool.and_eq_true, Bool.or_eq_true, Bool.not_eq_true', Bool.or_eq_false_iff, beq_eq_false_iff_ne] at hw
    obtain ⟨⟨w1, w2⟩, w3⟩ := hw
    refine ⟨ok1.ok, ok2.ok, fun e hk => ?_, fun e hk => ?_, fun e => ?_⟩
    · have := ok2.mem hk
      subst this
      rcases w1 with w1 | w1
      · rcases e with e | e | e
        · rw [w1.1.1] at e; cases e
        · exact w1.1.2 e
        · exact w1.2 e
      · exact contains_f w1 hg2
    · have := ok1.mem hk
      subst this
      rcases w2 with w2 | w2
      · exact w2 e
      · exact contains_f w2 hg1
    · rcases w3 with w3 | w3
      · exact absurd e w3
      · have := List.all_eq_true.1 w3 g1 hg1
        simp only [Bool.or_eq_true, beq_iff_eq] at this
        rcases this with this | this
        · exact .inl (ok1.m this)
        · exact .inr (ok1.p this)
  | [f1, f2], a :: b :: c :: r => simp at hl
  | f1 :: f2 :: f3 :: way, [a, b] => simp at hl
  | f1 :: f2 :: f3 :: way, a :: b :: c :: args => trivial
theorem tryWays_ok {word : Str} {labels : List (Str × Int)} {vars : List (Str × (Int × Int))} {args : List Str} : ∀ {ws : List (List Str)}, (∀ way ∈ ws, wayOk word way = true) → (tryWays labels vars word args ws).2 = true → LineOk (tryWays labels vars word args ws).1
  | [], _, h => by cases h
  | way :: ws, hw, h => by
    unfold tryWays at h ⊢
    split at h
    · rename_i e; rw [if_pos e]; exact tryWays_ok (fun x hx => hw x (by simp [hx])) h
    · rename_i e; rw [if_neg e]
      split at h
      · rename_i e2; rw [if_pos e2]; exact way_two (Decidable.not_not.1 e) (hw way (by simp)) e2
      · rename_i e2; rw [if_neg e2]; exact tryWays_ok (fun x hx => hw x (by simp [hx])) h
theorem instruction_ok {labels : List (Str × Int)} {vars : List (Str × (Int × Int))} {s : Str} (h : (X.instruction labels vars s).2 = true) : LineOk (X.instruction labels vars s).1 := by
  unfold X.instruction at h ⊢
  simp only at h ⊢
  split at h
  · cases h
  · rename_i e; rw [if_neg e]; exact tryWays_ok (ways_ok _) h
/-- What holds of what is read. -/
structure RdOk (r : Rd) (i : Nat) (n : Nat) : Prop where
  lines : ∀ l ∈ r.lines, LineOk l
  len : r.lines.length ≤ i
  data : r.data.length = n
theorem RdOk.line {g : Gt} {i n : Nat} {r : Rd} (h : RdOk r i n) (x : Str) : RdOk (readLine g i r x) (i + 1) n := by
  obtain ⟨h1, h2, h3⟩ := h
  unfold readLine
  simp only
  split
  · split
    · exact ⟨h1, by simp only; omega, h3⟩
    · rename_i e
      simp only [Bool.or_eq_true, Bool.not_eq_true', not_or, Bool.not_eq_false] at e
      refine ⟨fun l hl => ?_, by simp only [List.length_append, List.length_singleton]; omega, h3⟩
      simp only [List.mem_append, List.mem_singleton] at hl
      rcases hl with hl | rfl
      · exact h1 l hl
      · exact instruction_ok e.1
  · split
    · split
      · exact ⟨h1, by simp only; omega, h3⟩
      · exact ⟨h1, by simp only; omega, h3⟩
    · split
      · exact ⟨h1, by simp only; omega, h3⟩
      · exact ⟨h1, by simp only; omega, by simp only [datum_len]; exact h3⟩
theorem RdOk.all {g : Gt} {n : Nat} : ∀ (ls : List Str) {i : Nat} {r : Rd}, RdOk r i n → RdOk (readLines g i ls r) (i + ls.length) n
  | [], i, r, h => h
  | x :: xs, i, r, h => by
    unfold readLines
    have := h.line (g := g) x
    split
    · exact ⟨this.lines, by have := this.len; simp only [List.length_cons]; omega, this.data⟩
    · have := RdOk.all (g := g) xs this
      rw [List.length_cons, show i + (xs.length + 1) = i + 1 + xs.length by omega]
      exact this
/-- What holds of a code that was read. -/
structure CdOk (s : Str) (C : Cd) : Prop where
  text : C.text = s
  lns : ∀ l ∈ C.lines, LineOk l
  dat : C.data.length ≤ 1099511627776
  spans : ∀ v ∈ C.spans, 1 ≤ v.1 ∧ v.1 ≤ 65536 ∧ 65536 ≤ v.2 ∧ v.2 + v.1 ≤ 65536 + C.data.length
  labs : ∀ n v, C.labels.lookup n = some v → 0 ≤ v ∧ v ≤ 4294967296
  vars : ∀ n v, C.vars.lookup n = some v → 1 ≤ v.1 ∧ v.1 ≤ 65536 ∧ 65536 ≤ v.2 ∧ v.2 + v.1 ≤ 65536 + C.data.length
  lines : C.lines.length ≤ 1048576
  nspans : C.spans.length ≤ 1048576
theorem read_ok {s : Str} {C : Cd} (hs : s.length ≤ 1048575) (h : X.read s = .ok C) : CdOk s C := by
  rw [read_eq] at h
  have hl : (splitOn 10 s).dropLast.length ≤ 1048575 := by have := splitOn_len 10 s; rw [List.length_dropLast]; omega
  obtain ⟨g, hg⟩ : ∃ g, gather 0 (splitOn 10 s).dropLast gather0 = g := ⟨_, rfl⟩
  have G := gather_ok (splitOn 10 s).dropLast 0 gather0 GOk.start
  rw [hg] at h G
  have R := RdOk.all (g := g) (n := (g.at_ - 65536).toNat) (splitOn 10 s).dropLast (i := 0) (r := ⟨[], List.replicate (g.at_ - 65536).toNat 0, 0, false⟩) ⟨fun l hl => (by cases hl), Nat.le_refl _, by simp⟩
  obtain ⟨r, hr⟩ : ∃ r, readLines g 0 (splitOn 10 s).dropLast ⟨[], List.replicate (g.at_ - 65536).toNat 0, 0, false⟩ = r := ⟨_, rfl⟩
  rw [hr] at h R
  obtain ⟨k, hk⟩ : ∃ k, (splitOn 10 s).dropLast.length = k := ⟨_, rfl⟩
  rw [hk] at G R hl
  unfold readEnd at h
  split at h
  · cases h
  · split at h
    · cases h
    · split at h
      · cases h
      · have e : (⟨s, r.lines, g.labels, g.vars, r.data, g.spans⟩ : Cd) = C := Except.ok.inj h
        subst e
        obtain ⟨g1, g2, g3, g4, g5, g6, g7, g8, g9, g10⟩ := G
        obtain ⟨r1, r2, r3⟩ := R
        simp only [Nat.zero_add] at *
        refine ⟨rfl, r1, by simp only [r3]; omega, fun v hv => ?_, fun n v e => ?_, fun n v e => ?_, by simp only; omega, by simp only; omega⟩
        · have := g10 v hv; simp only [r3]; omega
        · have := g7 n v e; omega
        · have := g8 n v e; simp only [r3]; omega
end Go.Proofs.YtfkfdffhajokkaaGreatDoor
