/- How package x86 reads decimal numbers that are told as Go tells them, and lines that are joined; in plain Lean; conditions: numbers of 64 bits. -/
import Derived.Test.YtfkfdffhajokkaaGreatDoorA01
import Derived.Lib.ItoaMem
namespace Go.Proofs.YtfkfdffhajokkaaGreatDoor.Pl
open Go.RowKit X
theorem parseUintM_cons (M acc : Nat) (c : UInt8) (r : Str) : Lib.parseUintM M acc (c :: r) = if 48 ≤ c.toNat ∧ c.toNat ≤ 57 then (if 1844674407370955162 ≤ acc then .range else if M < acc * 10 + (c.toNat - 48) then .range else Lib.parseUintM M (acc * 10 + (c.toNat - 48)) r) else Lib.NumEnd.syntax := rfl
theorem parseUintM_app (M : Nat) : ∀ (l r : Str) (acc : Nat), Lib.parseUintM M acc (l ++ r) = (match Lib.parseUintM M acc l with | .ok a => Lib.parseUintM M a r | .range => .range | Lib.NumEnd.syntax => Lib.NumEnd.syntax)
  | [], r, acc => by simp [Lib.parseUintM]
  | c :: l, r, acc => by
    rw [List.cons_append, parseUintM_cons, parseUintM_cons]
    split
    · split
      · rfl
      · split
        · rfl
        · exact parseUintM_app M l r _
    · rfl
theorem digit_toNat {d : Nat} (h : d < 10) : (UInt8.ofNat (48 + d)).toNat = 48 + d := by
  rw [UInt8.toNat_ofNat']; omega
theorem parseUintM_dec (M : Nat) (hM : M < 2 ^ 64) : ∀ u : Nat, u ≤ M → Lib.parseUintM M 0 (Lib.decDigits u) = .ok u := by
  intro u
  induction u using Nat.strongRecOn with
  | _ u ih =>
    intro hu
    rw [Lib.decDigits]
    split
    · rename_i h
      unfold Lib.parseUintM
      rw [digit_toNat h, if_pos (by omega), if_neg (by omega), if_neg (by omega), show 0 * 10 + (48 + u - 48) = u by omega]
      rfl
    · rename_i h
      rw [parseUintM_app, ih (u / 10) (by omega) (by omega)]
      simp only
      unfold Lib.parseUintM
      rw [digit_toNat (by omega), if_pos (by omega), if_neg (by omega), if_neg (by omega), show u / 10 * 10 + (48 + u % 10 - 48) = u by omega]
      rfl
theorem decDigits_mem : ∀ (u : Nat) (c : UInt8), c ∈ Lib.decDigits u → 48 ≤ c.toNat ∧ c.toNat ≤ 57 := by
  intro u
  induction u using Nat.strongRecOn with
  | _ u ih =>
    intro c hc
    rw [Lib.decDigits] at hc
    split at hc
    · rename_i h
      obtain rfl := List.mem_singleton.1 hc
      rw [digit_toNat h]; omega
    · rcases List.mem_append.1 hc with hc | hc
      · exact ih (u / 10) (by omega) c hc
      · obtain rfl := List.mem_singleton.1 hc
        rw [digit_toNat (by omega)]; omega
theorem decDigits_ne (u : Nat) : Lib.decDigits u ≠ [] := by
  intro h
  have := congrArg List.length h
  rw [Lib.decDigits_length] at this
  have h2 := Lib.nDigits_pos u
  simp only [List.length_nil] at this
  omega
theorem itoa_mem (v : Int) (c : UInt8) (h : c ∈ Lib.itoa v) : c.toNat = 45 ∨ 48 ≤ c.toNat ∧ c.toNat ≤ 57 := by
  unfold Lib.itoa at h
  split at h
  · rcases List.mem_cons.1 h with rfl | h
    · exact .inl rfl
    · exact .inr (decDigits_mem _ _ h)
  · exact .inr (decDigits_mem _ _ h)
theorem itoa_ne (v : Int) : Lib.itoa v ≠ [] := by
  unfold Lib.itoa
  split
  · simp
  · exact decDigits_ne _
theorem parseUintB_dec (B u : Nat) (hB : B = 32 ∨ B = 64) (hu : u < 2 ^ B) : Lib.parseUintB B (Lib.decDigits u) = .ok u := by
  unfold Lib.parseUintB
  rw [if_neg (decDigits_ne u), parseUintM_dec]
  · rcases hB with rfl | rfl <;> decide
  · omega
theorem parseIntB_itoa (B : Nat) (v : Int) (hB : B = 32 ∨ B = 64) (h0 : -(2 ^ (B - 1) : Int) ≤ v) (h1 : v < 2 ^ (B - 1)) : Lib.parseIntB B (Lib.itoa v) = .ok v := by
  unfold Lib.itoa
  split
  · rename_i hneg
    unfold Lib.parseIntB
    simp only
    have e : (45 : UInt8).toNat = 45 := rfl
    rw [e, if_pos (.inr rfl), parseUintB_dec B _ hB (by rcases hB with rfl | rfl <;> omega)]
    simp only [not_true, false_and, if_false, true_and, if_true]
    rw [if_neg (by rcases hB with rfl | rfl <;> omega)]
    congr 1
    omega
  · rename_i hpos
    cases hd : Lib.decDigits v.toNat with
    | nil => exact absurd hd (decDigits_ne _)
    | cons c r =>
      have hc := decDigits_mem v.toNat c (by rw [hd]; simp)
      unfold Lib.parseIntB
      simp only
      rw [if_neg (by omega), ← hd, parseUintB_dec B _ hB (by rcases hB with rfl | rfl <;> omega)]
      simp only
      rw [if_neg (by rcases hB with rfl | rfl <;> omega), if_neg (by omega), if_neg (by omega)]
      congr 1
      omega
theorem number_itoa (B : Nat) (v : Int) (hB : B = 32 ∨ B = 64) (h0 : -(2 ^ (B - 1) : Int) ≤ v) (h1 : v < 2 ^ (B - 1)) : X.number (Lib.itoa v) B = (v, true) := by
  unfold X.number
  rw [parseIntB_itoa B v hB h0 h1]
  simp
/-! ### Lines -/
def joinLines (ls : List Str) : Str := ls.flatMap (· ++ [10])
theorem joinLines_cons (l : Str) (ls : List Str) : joinLines (l :: ls) = l ++ 10 :: joinLines ls := by simp [joinLines]
theorem joinLines_app (a b : List Str) : joinLines (a ++ b) = joinLines a ++ joinLines b := by simp [joinLines]
theorem splitOn_cons (c b : UInt8) (r : Str) : splitOn c (b :: r) = if b = c then [] :: splitOn c r else match splitOn c r with | [] => [[b]] | x :: xs => (b :: x) :: xs := rfl
theorem splitOn_nel (c : UInt8) : ∀ s : Str, splitOn c s ≠ []
  | [] => by simp [splitOn]
  | b :: r => by
    unfold splitOn
    split
    · simp
    · split <;> simp
theorem splitOn_sep (c : UInt8) : ∀ (l r : Str), (∀ b ∈ l, b ≠ c) → splitOn c (l ++ c :: r) = l :: splitOn c r
  | [], r, _ => by simp [splitOn]
  | b :: l, r, h => by
    have ih := splitOn_sep c l r (fun x hx => h x (by simp [hx]))
    have hb : ¬ b = c := h b (by simp)
    rw [List.cons_append, splitOn_cons, if_neg hb, ih]
theorem splitOn_lines : ∀ (ls : List Str), (∀ l ∈ ls, ∀ b ∈ l, b ≠ (10 : UInt8)) → splitOn 10 (joinLines ls) = ls ++ [[]]
  | [], _ => by simp [joinLines, splitOn]
  | l :: ls, h => by
    rw [joinLines_cons, splitOn_sep 10 l _ (h l (by simp)), splitOn_lines ls (fun x hx => h x (by simp [hx])), List.cons_append]
/-- The reading of joined lines. -/
theorem read_lines (ls : List Str) (h : ∀ l ∈ ls, ∀ b ∈ l, b ≠ (10 : UInt8)) (g : Gt) (hg : gather 0 ls gather0 = g) (r : Rd) (hr : readLines g 0 ls ⟨[], List.replicate (g.at_ - 65536).toNat 0, 0, false⟩ = r) (hb : r.bad = false) (hm : (g.labels.lookup ([109, 97, 105, 110] : Str)).isSome = true) :
    X.read (joinLines ls) = .ok ⟨joinLines ls, r.lines, g.labels, g.vars, r.data, g.spans⟩ := by
  unfold X.read
  simp only
  rw [splitOn_lines ls h, List.dropLast_concat, hg, hr, hb, if_neg (by decide), if_neg (by simp), if_neg (by rw [Option.isSome_iff_ne_none] at hm; simpa using hm)]
end Go.Proofs.YtfkfdffhajokkaaGreatDoor.Pl
/- How package x86 reads instructions that are told as they must be; in plain Lean; conditions: none beyond each theorem's own. -/
namespace Go.Proofs.YtfkfdffhajokkaaGreatDoor.Pl
open Go.RowKit X
set_option linter.unusedSimpArgs false
theorem index_char (c : UInt8) (r : Str) : ∀ w : Str, (∀ b ∈ w, b ≠ c) → Lib.index (w ++ c :: r) [c] = w.length
  | [], _ => by simp [Lib.index]
  | b :: w, h => by
    have ih := index_char c r w (fun x hx => h x (by simp [hx]))
    have hb : b ≠ c := h b (by simp)
    rw [List.cons_append]
    unfold Lib.index
    rw [if_neg (by simp [List.isPrefixOf, hb.symm]), ih, if_neg (by simp)]
    simp
theorem cut_char (c : UInt8) (w r : Str) (h : ∀ b ∈ w, b ≠ c) : Lib.cut (w ++ c :: r) [c] = (w, r, true) := by
  unfold Lib.cut
  rw [index_char c r w h, if_pos (by omega)]
  simp
theorem index_char_no (c : UInt8) : ∀ w : Str, (∀ b ∈ w, b ≠ c) → Lib.index w [c] = -1
  | [], _ => by simp [Lib.index]
  | b :: w, h => by
    have ih := index_char_no c w (fun x hx => h x (by simp [hx]))
    have hb : b ≠ c := h b (by simp)
    unfold Lib.index
    rw [if_neg (by simp [List.isPrefixOf, hb.symm]), ih, if_pos (by simp)]
theorem cut_char_no (c : UInt8) (w : Str) (h : ∀ b ∈ w, b ≠ c) : Lib.cut w [c] = (w, [], false) := by
  unfold Lib.cut
  rw [index_char_no c w h, if_neg (by omega)]
/-- No comma with a blank behind it, none at the end. -/
def noSep : Str → Bool
  | [] => true
  | [c] => c != 44
  | c :: d :: r => !(c == 44 && d == 32) && noSep (d :: r)
theorem noSep_of : ∀ w : Str, (∀ b ∈ w, b ≠ (44 : UInt8)) → noSep w = true
  | [], _ => rfl
  | [c], h => by simp [noSep, h c (by simp)]
  | c :: d :: r, h => by
    have := noSep_of (d :: r) (fun x hx => h x (by simp only [List.mem_cons] at hx ⊢; exact .inr hx))
    unfold noSep
    rw [this]
    simp [h c (by simp)]
theorem index_sep (r : Str) : ∀ w : Str, noSep w = true → Lib.index (w ++ 44 :: 32 :: r) [44, 32] = w.length
  | [], _ => by simp [Lib.index, List.isPrefixOf]
  | [c], h => by
    have hc : c ≠ 44 := by simpa [noSep] using h
    have e := index_sep r [] rfl
    simp only [List.nil_append, List.length_nil] at e
    rw [List.singleton_append]
    unfold Lib.index
    rw [if_neg (by simp [List.isPrefixOf, hc.symm]), e]
    rfl
  | c :: d :: w, h => by
    unfold noSep at h
    rw [Bool.and_eq_true] at h
    have ih := index_sep r (d :: w) h.2
    rw [List.cons_append]
    unfold Lib.index
    have h1 : ¬ (c = 44 ∧ d = 32) := by have := h.1; rintro ⟨rfl, rfl⟩; exact absurd this (by decide)
    rw [if_neg (by simp only [List.cons_append, List.isPrefixOf, Bool.and_true, Bool.and_eq_true, beq_iff_eq]; rintro ⟨rfl, rfl⟩; exact h1 ⟨rfl, rfl⟩), ih, if_neg (by simp; omega)]
    simp
theorem index_nosep : ∀ w : Str, noSep w = true → Lib.index w [44, 32] = -1
  | [], _ => by simp [Lib.index]
  | [c], h => by
    have hc : c ≠ 44 := by simpa [noSep] using h
    unfold Lib.index
    rw [if_neg (by simp [List.isPrefixOf])]
    rfl
  | c :: d :: w, h => by
    unfold noSep at h
    rw [Bool.and_eq_true] at h
    have ih := index_nosep (d :: w) h.2
    unfold Lib.index
    have h1 : ¬ (c = 44 ∧ d = 32) := by have := h.1; rintro ⟨rfl, rfl⟩; exact absurd this (by decide)
    rw [if_neg (by simp only [List.isPrefixOf, Bool.and_true, Bool.and_eq_true, beq_iff_eq]; rintro ⟨rfl, rfl⟩; exact h1 ⟨rfl, rfl⟩), ih]
    rfl
theorem split_nil : X.split [] = [] := rfl
theorem split_one (b : Str) (hb : b ≠ []) (h : noSep b = true) : X.split b = [b] := by
  unfold X.split splitArgs
  rw [if_neg (by simpa using hb), if_pos (by rw [index_nosep b h]; omega)]
theorem split_two (a b : Str) (hb : b ≠ []) (ha : noSep a = true) (h : noSep b = true) : X.split (a ++ 44 :: 32 :: b) = [a, b] := by
  have e : ∃ k, (a ++ 44 :: 32 :: b).length = k + 1 := ⟨(a ++ b).length + 1, by simp only [List.length_append, List.length_cons]; omega⟩
  obtain ⟨k, hk⟩ := e
  unfold X.split
  rw [hk]
  unfold splitArgs
  rw [if_neg (by simp), index_sep b a ha, if_neg (by omega)]
  have e2 : (a ++ 44 :: 32 :: b).drop ((a.length : Int).toNat + 2) = b := by
    rw [Int.toNat_natCast, List.drop_append, List.drop_eq_nil_of_le (by omega), show a.length + 2 - a.length = 2 by omega]; rfl
  simp only [e2]
  rw [Int.toNat_natCast, if_neg (by simpa using hb), List.take_left]
  unfold splitArgs
  rw [if_neg (by simpa using hb), if_pos (by rw [index_nosep b h]; omega)]
/-- An instruction's text. -/
def insText (word : Str) : List Str → Str
  | [] => word
  | [a] => word ++ 9 :: a
  | [a, b] => word ++ 9 :: (a ++ 44 :: 32 :: b)
  | _ => []
theorem instruction_0 (labels : List (Str × Int)) (vars : List (Str × (Int × Int))) (word : Str) (hw : ∀ b ∈ word, b ≠ (9 : UInt8)) :
    X.instruction labels vars (insText word []) = tryWays labels vars word [] (X.ways word) := by
  unfold X.instruction insText
  simp only
  rw [cut_char_no 9 word hw]
  simp only
  rw [if_neg (by simp), split_nil]
theorem instruction_1 (labels : List (Str × Int)) (vars : List (Str × (Int × Int))) (word a : Str) (hw : ∀ b ∈ word, b ≠ (9 : UInt8)) (ha : a ≠ []) (na : noSep a = true) :
    X.instruction labels vars (insText word [a]) = tryWays labels vars word [a] (X.ways word) := by
  unfold X.instruction insText
  simp only
  rw [cut_char 9 word a hw]
  simp only
  rw [if_neg (by simpa using ha), split_one a ha na]
theorem instruction_2 (labels : List (Str × Int)) (vars : List (Str × (Int × Int))) (word a b : Str) (hw : ∀ b ∈ word, b ≠ (9 : UInt8)) (hb : b ≠ []) (na : noSep a = true) (nb : noSep b = true) :
    X.instruction labels vars (insText word [a, b]) = tryWays labels vars word [a, b] (X.ways word) := by
  unfold X.instruction insText
  simp only
  rw [cut_char 9 word _ hw]
  simp only
  rw [if_neg (by simp), split_two a b hb na nb]
theorem number_dec (B : Nat) (u : Nat) (hB : B = 32 ∨ B = 64) (h1 : u < 2 ^ (B - 1)) : X.number (Lib.decDigits u) B = ((u : Int), true) := by
  rw [← Lib.itoa_nonneg, number_itoa B u hB]
  · rcases hB with rfl | rfl <;> omega
  · rcases hB with rfl | rfl <;> omega
/-- A number as an operand. -/
def numOpd (v : Int) : Opd := ⟨2, 0, 0, v, 0, 0, []⟩
theorem immediate_itoa (B : Nat) (v : Int) (hB : B = 32 ∨ B = 64) (h0 : -(2 ^ (B - 1) : Int) ≤ v) (h1 : v < 2 ^ (B - 1)) : immediate (36 :: Lib.itoa v) B = (numOpd v, true) := by
  unfold immediate
  have e : Lib.trimPrefix (36 :: Lib.itoa v) [36] = Lib.itoa v := by simp [Lib.trimPrefix, Lib.hasPrefix, List.isPrefixOf]
  have e2 : Lib.hasPrefix (36 :: Lib.itoa v) [36] = true := by simp [Lib.hasPrefix, List.isPrefixOf]
  rw [e, e2, number_itoa B v hB h0 h1]
  rfl
theorem take_I (v : Int) (r : Str) (h0 : -2147483648 ≤ v) (h1 : v < 2147483648) : X.take (36 :: Lib.itoa v) (73 :: r) = (numOpd v, true) := by
  unfold X.take
  have e : takeOne 73 (36 :: Lib.itoa v) = (numOpd v, true) := by unfold takeOne; rw [if_pos rfl]; exact immediate_itoa 32 v (.inl rfl) (by omega) (by omega)
  rw [e]
  rfl
theorem take_J (v : Int) (r : Str) (h0 : -9223372036854775808 ≤ v) (h1 : v ≤ 9223372036854775807) : X.take (36 :: Lib.itoa v) (74 :: r) = (numOpd v, true) := by
  unfold X.take
  have e : takeOne 74 (36 :: Lib.itoa v) = (numOpd v, true) := by unfold takeOne; rw [if_neg (by decide), if_pos rfl]; exact immediate_itoa 64 v (.inr rfl) (by omega) (by omega)
  rw [e]
  rfl
theorem take_S (v : Int) (r : Str) (h0 : 0 ≤ v) (h1 : v < 64) : X.take (36 :: Lib.itoa v) (83 :: r) = (numOpd v, true) := by
  unfold X.take
  have e : takeOne 83 (36 :: Lib.itoa v) = (numOpd v, true) := by
    unfold takeOne
    rw [if_neg (by decide), if_neg (by decide), if_pos rfl, immediate_itoa 32 v (.inl rfl) (by omega) (by omega)]
    simp [numOpd, h0, h1]
  rw [e]
  rfl
theorem noSep_imm (v : Int) : noSep (36 :: Lib.itoa v) = true := by
  refine noSep_of _ fun b hb => ?_
  rcases List.mem_cons.1 hb with rfl | hb
  · decide
  · have := itoa_mem v b hb
    rintro rfl
    simp at this
/-- A register as an operand. -/
def regOpd (r : Int) (b : Int) : Opd := ⟨1, r, b, 0, 0, 0, []⟩
end Go.Proofs.YtfkfdffhajokkaaGreatDoor.Pl
/- How package x86 reads rows of lines, one behind the other; in plain Lean; conditions: none beyond each theorem's own. -/
namespace Go.Proofs.YtfkfdffhajokkaaGreatDoor.Pl
open Go.RowKit X
set_option linter.unusedSimpArgs false
theorem gather_cons (i : Nat) (s : Str) (r : List Str) (g : Gt) : gather i (s :: r) g = gather (i + 1) r (gatherLine g i s) := rfl
theorem gather_app : ∀ (a b : List Str) (i : Nat) (g : Gt), gather i (a ++ b) g = gather (i + a.length) b (gather i a g)
  | [], b, i, g => rfl
  | s :: a, b, i, g => by
    rw [List.cons_append, gather_cons, gather_cons, gather_app a b (i + 1), List.length_cons, show i + 1 + a.length = i + (a.length + 1) by omega]
theorem tab_prefix (t : Str) : Lib.hasPrefix (9 :: t) [9] = true := by simp [Lib.hasPrefix, List.isPrefixOf]
theorem tab_trim (t : Str) : Lib.trimPrefix (9 :: t) [9] = t := by unfold Lib.trimPrefix; rw [tab_prefix, if_pos rfl]; rfl
/-- Lines of instructions. -/
def tabs (ins : List (Str × Ln)) : List Str := ins.map fun p => 9 :: p.1
theorem gather_tabs : ∀ (ins : List (Str × Ln)) (i : Nat) (g : Gt), gather i (tabs ins) g = { g with k := g.k + ins.length }
  | [], i, g => by simp [tabs, gather]
  | p :: ins, i, g => by
    have e : tabs (p :: ins) = (9 :: p.1) :: tabs ins := rfl
    rw [e]
    unfold gather
    rw [gather_tabs ins (i + 1)]
    unfold gatherLine
    rw [tab_prefix, if_pos rfl]
    simp only [List.length_cons]
    congr 1
    omega
theorem readLines_cons (g : Gt) (i : Nat) (x : Str) (xs : List Str) (r : Rd) : readLines g i (x :: xs) r = if (readLine g i r x).bad then readLine g i r x else readLines g (i + 1) xs (readLine g i r x) := rfl
theorem readLines_app (g : Gt) : ∀ (a b : List Str) (i : Nat) (r : Rd), (readLines g i a r).bad = false → readLines g i (a ++ b) r = readLines g (i + a.length) b (readLines g i a r)
  | [], b, i, r, _ => rfl
  | x :: a, b, i, r, h => by
    rw [readLines_cons] at h
    rw [List.cons_append, readLines_cons, readLines_cons]
    cases hb : (readLine g i r x).bad with
    | true => rw [hb, if_pos rfl] at h; rw [hb] at h; cases h
    | false =>
      rw [hb] at h
      simp only [Bool.false_eq_true, if_false] at h ⊢
      rw [readLines_app g a b (i + 1) _ h, List.length_cons, show i + 1 + a.length = i + (a.length + 1) by omega]
/-- Where the next line lies. -/
def atEnd (ls : List Str) : Int := ((joinLines ls).length : Int)
theorem atEnd_cons (l : Str) (ls : List Str) : atEnd (l :: ls) = l.length + 1 + atEnd ls := by unfold atEnd; rw [joinLines_cons, List.length_append, List.length_cons]; omega
theorem readLines_tabs (g : Gt) (ht : g.twice = -1) : ∀ (ins : List (Str × Ln)) (i : Nat) (r : Rd), (∀ p ∈ ins, X.instruction g.labels g.vars p.1 = (p.2, true)) → r.bad = false →
    readLines g i (tabs ins) r = { r with lines := r.lines ++ ins.map (·.2), at_ := r.at_ + atEnd (tabs ins) }
  | [], i, r, _, _ => by simp [tabs, readLines, atEnd, joinLines]
  | p :: ins, i, r, h, hb => by
    have e : tabs (p :: ins) = (9 :: p.1) :: tabs ins := rfl
    have hp := h p (by simp)
    have hr : readLine g i r (9 :: p.1) = { r with lines := r.lines ++ [p.2], at_ := r.at_ + ((9 :: p.1).length + 1) } := by
      unfold readLine
      rw [tab_prefix, if_pos rfl, tab_trim, hp]
      simp only
      rw [ht, if_neg (by simp)]
    rw [e, readLines_cons, hr]
    simp only [hb, Bool.false_eq_true, if_false]
    rw [readLines_tabs g ht ins (i + 1) _ (fun q hq => h q (by simp [hq])) rfl]
    simp only [List.append_assoc, List.map_cons, List.singleton_append, atEnd_cons]
    congr 1
    omega
theorem readLine_label (g : Gt) (ht : g.twice = -1) (i : Nat) (r : Rd) (x : Str) (h9 : Lib.hasPrefix x [9] = false) (hl : (isLabel x).2 = true) : readLine g i r x = { r with at_ := r.at_ + (x.length + 1) } := by
  unfold readLine
  rw [h9, if_neg (by simp)]
  simp only
  rw [hl, if_pos rfl, ht, if_neg (by simp)]
/-- A text whose one label is main's, at its beginning. -/
theorem read_main (ins : List (Str × Ln)) (hn : ∀ p ∈ ins, ∀ b ∈ p.1, b ≠ (10 : UInt8)) (h : ∀ p ∈ ins, X.instruction [(([109, 97, 105, 110] : Str), 0)] [] p.1 = (p.2, true)) :
    X.read (joinLines (([109, 97, 105, 110, 58] : Str) :: tabs ins)) = .ok ⟨joinLines (([109, 97, 105, 110, 58] : Str) :: tabs ins), ins.map (·.2), [(([109, 97, 105, 110] : Str), 0)], [], [], []⟩ := by
  have hg : gather 0 (([109, 97, 105, 110, 58] : Str) :: tabs ins) gather0 = ⟨ins.length, -1, 65536, [(([109, 97, 105, 110] : Str), 0)], [], []⟩ := by
    have e : gather 0 (([109, 97, 105, 110, 58] : Str) :: tabs ins) gather0 = gather 1 (tabs ins) ⟨0, -1, 65536, [(([109, 97, 105, 110] : Str), 0)], [], []⟩ := by
      show gather 1 (tabs ins) (gatherLine gather0 0 ([109, 97, 105, 110, 58] : Str)) = _
      congr 1
    rw [e, gather_tabs]
    simp
  have hr := readLine_label ⟨ins.length, -1, 65536, [(([109, 97, 105, 110] : Str), 0)], [], []⟩ rfl 0 ⟨[], [], 0, false⟩ ([109, 97, 105, 110, 58] : Str) (by decide) (by decide)
  refine (read_lines (([109, 97, 105, 110, 58] : Str) :: tabs ins) ?_ _ hg _ rfl ?_ rfl).trans ?_
  · intro l hl b hb
    simp only [List.mem_cons] at hl
    rcases hl with rfl | hl
    · rintro rfl; exact absurd hb (by decide)
    · obtain ⟨p, hp, rfl⟩ := List.mem_map.1 hl
      rcases List.mem_cons.1 hb with rfl | hb
      · decide
      · exact hn p hp b hb
  · rw [show ((65536 : Int) - 65536).toNat = 0 from rfl, List.replicate_zero, readLines_cons, hr]
    simp only [Bool.false_eq_true, if_false]
    rw [readLines_tabs _ rfl ins 1 _ h rfl]
  · rw [show ((65536 : Int) - 65536).toNat = 0 from rfl, List.replicate_zero, readLines_cons, hr]
    simp only [Bool.false_eq_true, if_false]
    rw [readLines_tabs _ rfl ins 1 _ h rfl]
    simp
end Go.Proofs.YtfkfdffhajokkaaGreatDoor.Pl
/- A run of package x86's machine, told apart: what it comes to, and the least that %rsp was; in plain Lean; conditions: none beyond each theorem's own. -/
namespace Go.Proofs.YtfkfdffhajokkaaGreatDoor.Pl
open Go.RowKit X
set_option linter.unusedSimpArgs false
abbrev setL (m : Mach) (l : Int) : Mach := { m with least := l }
theorem halt_setL (m : Mach) (l k c : Int) : halt (setL m l) k c = setL (halt m k c) l := by unfold halt; simp only; split <;> rfl
theorem locate_setL (C : Cd) (m : Mach) (l a n : Int) : locate C (setL m l) a n = locate C m a n := rfl
theorem load_setL (C : Cd) (m : Mach) (l a b : Int) (s : Bool) : X.load C (setL m l) a b s = (setL (X.load C m a b s).1 l, (X.load C m a b s).2) := by
  unfold X.load
  rw [locate_setL, halt_setL]
  split <;> rfl
theorem store_setL (C : Cd) (m : Mach) (l a n : Int) (k : Nat) : X.store C (setL m l) a n k = setL (X.store C m a n k) l := by
  unfold X.store
  rw [locate_setL, halt_setL]
  split <;> rfl
theorem address_setL (C : Cd) (m : Mach) (l : Int) (o : Opd) : X.address C (setL m l) o = X.address C m o := rfl
theorem value_setL (C : Cd) (m : Mach) (l : Int) (o : Opd) (b : Int) (s : Bool) : X.value C (setL m l) o b s = (setL (X.value C m o b s).1 l, (X.value C m o b s).2) := by
  unfold X.value
  rw [address_setL, load_setL]
  split
  · rfl
  · split <;> rfl
theorem setReg_setL (m : Mach) (l : Int) (r : Nat) (v : Int) : setReg (setL m l) r v = setL (setReg m r v) l := rfl
theorem move_setL (C : Cd) (m : Mach) (l : Int) (o : Opd) (n : Int) (k : Nat) : X.move C (setL m l) o n k = setL (X.move C m o n k) l := by
  unfold X.move
  rw [address_setL, store_setL]
  simp only
  split
  · rfl
  · split <;> rfl
theorem push_setL (C : Cd) (m : Mach) (l n : Int) : X.push C (setL m l) n = setL (X.push C m n) l := by
  unfold X.push
  rw [setReg_setL, store_setL]
theorem pop_setL (C : Cd) (m : Mach) (l : Int) : X.pop C (setL m l) = (setL (X.pop C m).1 l, (X.pop C m).2) := by
  unfold X.pop
  simp only [load_setL]
  rfl
theorem leap_setL (C : Cd) (m : Mach) (l t : Int) : X.leap C (setL m l) t = setL (X.leap C m t) l := by
  unfold X.leap
  rw [halt_setL]
  split <;> rfl
theorem target_setL (C : Cd) (m : Mach) (l : Int) (o : Opd) : X.target C (setL m l) o = X.target C m o := rfl
theorem holds_setL (m : Mach) (l : Int) (c : Str) : X.holds (setL m l) c = (setL (X.holds m c).1 l, (X.holds m c).2) := by
  unfold X.holds
  rw [halt_setL]
  simp only
  split <;> rfl
theorem divide_setL (m : Mach) (l : Int) (s : Bool) (d : Int) : X.divide (setL m l) s d = setL (X.divide m s d) l := by
  unfold X.divide
  simp only [halt_setL]
  cases s
  · simp only [Bool.false_eq_true, if_false]
    split <;> rfl
  · simp only [if_true]
    split <;> rfl
theorem two_setL (C : Cd) (m : Mach) (l : Int) (w : Str) (a b : Opd) : X.two C (setL m l) w a b = setL (X.two C m w a b) l := by
  unfold X.two
  simp only [value_setL, move_setL, address_setL, target_setL]
  split
  · rfl
  · split
    · rfl
    · split
      · rfl
      · split
        · split <;> rfl
        · split
          · rfl
          · split <;> rfl
theorem one_setL (C : Cd) (m : Mach) (l : Int) (w : Str) (a : Opd) : X.one C (setL m l) w a = setL (X.one C m w a) l := by
  unfold X.one
  simp only [value_setL, move_setL, address_setL, target_setL, setReg_setL, divide_setL, leap_setL, push_setL, pop_setL, holds_setL]
  split
  · rfl
  · split
    · rfl
    · split
      · rfl
      · split
        · rfl
        · split
          · rfl
          · split
            · rfl
            · split
              · rfl
              · split
                · rfl
                · split <;> rfl
theorem none_setL (C : Cd) (m : Mach) (l : Int) (w : Str) : X.none' C (setL m l) w = setL (X.none' C m w) l := by
  unfold X.none'
  simp only [value_setL, move_setL, address_setL, target_setL, setReg_setL, divide_setL, leap_setL, push_setL, pop_setL, holds_setL, halt_setL]
  split
  · split <;> rfl
  · split
    · rfl
    · split
      · split <;> rfl
      · split
        · rfl
        · split
          · rfl
          · split <;> rfl
theorem step_setL (C : Cd) (m : Mach) (l : Int) : X.step C (setL m l) = setL (X.step C m) l := by
  unfold X.step
  simp only [halt_setL]
  split
  · rfl
  · split
    · exact two_setL C { m with at_ := m.at_ + 1 } l _ _ _
    · exact one_setL C { m with at_ := m.at_ + 1 } l _ _
    · exact none_setL C { m with at_ := m.at_ + 1 } l _
/-- A run, but for the least that %rsp was. -/
def iter (C : Cd) : Nat → Mach → Mach
  | 0, m => m
  | k + 1, m => if m.kind ≠ 0 then m else iter C k (X.step C m)
def fin (m : Mach) : Mach := if m.kind ≠ 0 then m else halt m 3 0
/-- The least that %rsp is in a run. -/
def lows (C : Cd) : Nat → Mach → Int → Int
  | 0, m, l => min l (m.regs 7)
  | k + 1, m, l => if m.kind ≠ 0 then min l (m.regs 7) else lows C k (X.step C m) (min l (m.regs 7))
theorem runN_setL (C : Cd) : ∀ (k : Nat) (m : Mach) (l : Int), X.runN C k (setL m l) = setL (fin (iter C k m)) (lows C k m l)
  | 0, m, l => by
    unfold X.runN iter lows fin
    simp only
    split
    · rfl
    · have e : lower (setL m l) = setL m (min l (m.regs 7)) := rfl
      rw [e, halt_setL]
      have e2 : ∀ a, lower (setL (halt m 3 0) a) = setL (halt m 3 0) (min a ((halt m 3 0).regs 7)) := fun _ => rfl
      have e3 : (halt m 3 0).regs = m.regs := by unfold halt; split <;> rfl
      rw [e2, e3]
      congr 1
      omega
  | k + 1, m, l => by
    unfold X.runN iter lows
    simp only
    split
    · rename_i h
      rw [show fin m = m by unfold fin; rw [if_pos h]]
      rfl
    · have e : lower (setL m l) = setL m (min l (m.regs 7)) := rfl
      rw [e, step_setL, runN_setL C k]
theorem runN_eq (C : Cd) (k : Nat) (m : Mach) : X.runN C k m = setL (fin (iter C k m)) (lows C k m m.least) := runN_setL C k m m.least
theorem iter_succ (C : Cd) (k : Nat) (m : Mach) : iter C (k + 1) m = if m.kind ≠ 0 then m else iter C k (X.step C m) := rfl
theorem iter_over (C : Cd) (k : Nat) (m : Mach) (h : m.kind ≠ 0) : iter C k m = m := by cases k with
  | zero => rfl
  | succ k => rw [iter_succ, if_pos h]
theorem iter_add (C : Cd) : ∀ (j k : Nat) (m : Mach), iter C (j + k) m = iter C k (iter C j m)
  | 0, k, m => by rw [Nat.zero_add]; rfl
  | j + 1, k, m => by
    rw [show j + 1 + k = (j + k) + 1 by omega, iter_succ, iter_succ]
    split
    · rename_i h
      rw [iter_over C k m h]
    · exact iter_add C j k (X.step C m)
theorem iter_step (C : Cd) (k : Nat) (m : Mach) (h : m.kind = 0) : iter C (k + 1) m = iter C k (X.step C m) := by rw [iter_succ, if_neg (by simp [h])]
theorem iter_one (C : Cd) (m : Mach) (h : m.kind = 0) : iter C 1 m = X.step C m := iter_step C 0 m h
/-- One instruction, done. -/
def exec (C : Cd) (m : Mach) (l : Ln) : Mach :=
  match l.ops with
  | [a, b] => X.two C m l.word a b
  | [a] => X.one C m l.word a
  | _ => X.none' C m l.word
theorem step_at (C : Cd) (m : Mach) (i : Nat) (l : Ln) (ha : m.at_ = i) (hl : C.lines[i]? = some l) : X.step C m = exec C { m with at_ := (i : Int) + 1 } l := by
  have hi : i < C.lines.length := (List.getElem?_eq_some_iff.1 hl).1
  unfold X.step
  rw [ha, if_neg (by omega), Int.toNat_natCast, List.getD_eq_getElem?_getD, hl]
  rfl
end Go.Proofs.YtfkfdffhajokkaaGreatDoor.Pl
/- What single instructions do to package x86's machine; in plain Lean; conditions: a machine that runs, numbers of 64 bits. -/
namespace Go.Proofs.YtfkfdffhajokkaaGreatDoor.Pl
open Go.RowKit X
set_option linter.unusedSimpArgs false
/-- A number of 64 bits with a sign. -/
def I64 (n : Int) : Prop := -9223372036854775808 ≤ n ∧ n ≤ 9223372036854775807
theorem wrap64_I {n : Int} (h : I64 n) : wrap64 n = n := by unfold I64 at h; unfold wrap64; omega
theorem I64.wrap (n : Int) : I64 (wrap64 n) := by unfold I64 wrap64; omega
theorem u64_mod (n : Int) : u64 n = n % 18446744073709551616 := by unfold u64 IntKind.wrap; simp [IntKind.signed, IntKind.bits]
theorem wrapW64 {n : Int} (h : I64 n) : wrapW 64 true n = n := by
  unfold wrapW
  rw [if_pos rfl, show ((64 : Int) - 64).toNat = 0 from rfl, Int.pow_zero, Int.mul_one, Int.ediv_one, wrap64_I h]
/-! ### Words on a stack -/
def word64 (f : Nat → UInt8) (o : Nat) : Int := wrap64 (val (getN f o 8))
theorem val_bytes (N : Nat) : ∀ (k j : Nat) (g : Nat → UInt8) (o : Nat), (∀ i, i < k → g (o + i) = UInt8.ofNat (N / 2 ^ (8 * (j + i)) % 256)) → val (getN g o k) = N / 2 ^ (8 * j) % 2 ^ (8 * k)
  | 0, j, g, o, _ => by simp [getN, val, Nat.mod_one]
  | k + 1, j, g, o, h => by
    have h0 := h 0 (by omega)
    have ih := val_bytes N k (j + 1) g (o + 1) (fun i hi => by rw [show o + 1 + i = o + (i + 1) by omega, show j + 1 + i = j + (i + 1) by omega]; exact h (i + 1) (by omega))
    unfold getN val
    rw [ih]
    simp only [Nat.add_zero] at h0
    rw [h0, UInt8.toNat_ofNat', Nat.mod_eq_of_lt (show N / 2 ^ (8 * j) % 256 < 2 ^ 8 by omega), show 8 * (j + 1) = 8 * j + 8 by omega, Nat.pow_add, ← Nat.div_div_eq_div_mul, show 8 * (k + 1) = 8 + 8 * k by omega, Nat.pow_add, show (2 : Nat) ^ 8 = 256 from rfl, Nat.mod_mul]
theorem word64_put (f : Nat → UInt8) (o : Nat) {n : Int} (h : I64 n) : word64 (putN f o 8 n) o = n := by
  have e := val_bytes (n % 18446744073709551616).toNat 8 0 (putN f o 8 n) o (fun i hi => by
    unfold putN
    rw [if_pos (by omega), show o + i - o = i by omega, Nat.zero_add]
    rfl)
  unfold word64
  rw [e]
  simp only [Nat.mul_zero, Nat.pow_zero, Nat.div_one]
  unfold I64 at h
  unfold wrap64
  omega
theorem getN_put (f : Nat → UInt8) (o n : Nat) (v : Int) : ∀ (k o' : Nat), (o' + k ≤ o ∨ o + n ≤ o') → getN (putN f o n v) o' k = getN f o' k
  | 0, _, _ => rfl
  | k + 1, o', h => by
    unfold getN
    rw [getN_put f o n v k (o' + 1) (by omega)]
    congr 1
    unfold putN
    rw [if_neg (by omega)]
theorem word64_other (f : Nat → UInt8) (o o' : Nat) (n : Nat) (v : Int) (h : o' + 8 ≤ o ∨ o + n ≤ o') : word64 (putN f o n v) o' = word64 f o' := by
  unfold word64; rw [getN_put f o n v 8 o' h]
/-- Where %rsp points, on a stack of m.sN bytes. -/
def off (m : Mach) (a : Int) : Nat := (a - (16777216 - (m.sN : Int))).toNat
theorem locate_stack (C : Cd) (m : Mach) (a n : Int) (h0 : 16777216 - (m.sN : Int) ≤ a) (h1 : a ≤ 16777216 - n) : locate C m a n = some (.stack (off m a)) := by
  unfold locate
  rw [if_pos ⟨h0, h1⟩]
  rfl
theorem locate_low (C : Cd) (m : Mach) (a n : Int) (h0 : a < 16777216 - (m.sN : Int)) (hc : C.spans = []) : locate C m a n = none := by
  unfold locate
  rw [if_neg (by omega), hc]
  rfl
theorem push_room (C : Cd) (m : Mach) (n : Int) (h0 : 16777216 - (m.sN : Int) ≤ m.regs 7 - 8) (h1 : m.regs 7 ≤ 16777216) (hs : m.sN ≤ 1048576) :
    X.push C m n = { setReg m 7 (m.regs 7 - 8) with stack := putN m.stack (off m (m.regs 7 - 8)) 8 n } := by
  have e : wrap64 (m.regs 7 - 8) = m.regs 7 - 8 := wrap64_I (by unfold I64; omega)
  unfold X.push X.store
  rw [e, locate_stack C (setReg m 7 (m.regs 7 - 8)) _ _ h0 (by omega)]
  rfl
theorem push_none (C : Cd) (m : Mach) (n : Int) (h0 : m.regs 7 - 8 < 16777216 - (m.sN : Int)) (h1 : 0 ≤ m.regs 7 ∧ m.regs 7 ≤ 16777216) (hc : C.spans = []) :
    X.push C m n = halt (setReg m 7 (m.regs 7 - 8)) 5 0 := by
  have e : wrap64 (m.regs 7 - 8) = m.regs 7 - 8 := wrap64_I (by unfold I64; omega)
  unfold X.push X.store
  rw [e, locate_low C (setReg m 7 (m.regs 7 - 8)) _ _ h0 hc]
theorem pop_word (C : Cd) (m : Mach) (h0 : 16777216 - (m.sN : Int) ≤ m.regs 7) (h1 : m.regs 7 ≤ 16777216 - 8) (hs : m.sN ≤ 1048576) :
    X.pop C m = (setReg m 7 (m.regs 7 + 8), word64 m.stack (off m (m.regs 7))) := by
  have e : wrap64 (m.regs 7 + 8) = m.regs 7 + 8 := wrap64_I (by unfold I64; omega)
  unfold X.pop X.load
  rw [show (64 : Int) / 8 = 8 from rfl, locate_stack C _ _ _ h0 h1]
  simp only [e]
  rw [wrapW64 (I64.wrap _)]
  rfl
/-! ### Instructions -/
theorem move_reg (C : Cd) (m : Mach) (r : Nat) (b n : Int) (k : Nat) (hk : m.kind = 0) : X.move C m (regOpd r b) n k = setReg m r n := by
  unfold X.move
  rw [if_neg (by simp [hk])]
  rfl
theorem value_reg (C : Cd) (m : Mach) (r : Nat) (b : Int) (h : I64 (m.regs r)) : X.value C m (regOpd r b) 64 true = (m, m.regs r) := by
  have e : X.value C m (regOpd r b) 64 true = (m, wrapW 64 true (m.regs r)) := rfl
  rw [e, wrapW64 h]
theorem value_num (C : Cd) (m : Mach) (v : Int) : X.value C m (numOpd v) 64 true = (m, v) := rfl
/-- Words that move 8 bytes. -/
structure Mov (w : Str) : Prop where
  e : extTab.lookup w = none
  p : partTab.lookup w = none
  s : sumTab.lookup w = none
  l : w ≠ ([108, 101, 97, 113] : Str)
  c : w ≠ ([99, 109, 112, 113] : Str)
  t : w ≠ ([116, 101, 115, 116, 113] : Str)
theorem Mov.movq : Mov ([109, 111, 118, 113] : Str) := ⟨by decide, by decide, by decide, by decide, by decide, by decide⟩
theorem Mov.movabsq : Mov ([109, 111, 118, 97, 98, 115, 113] : Str) := ⟨by decide, by decide, by decide, by decide, by decide, by decide⟩
theorem two_mov (C : Cd) (m : Mach) (w : Str) (h : Mov w) (fr to : Opd) : X.two C m w fr to = X.move C (X.value C m fr 64 true).1 to (X.value C m fr 64 true).2 8 := by
  unfold X.two
  rw [h.e, h.p, h.s]
  simp only
  rw [if_neg h.l, if_neg h.c, if_neg h.t]
theorem two_sum (C : Cd) (m : Mach) (w : Str) (sub : Int) (he : extTab.lookup w = none) (hp : partTab.lookup w = none) (h : sumTab.lookup w = some sub) (fr to : Opd) :
    X.two C m w fr to = X.move C (X.value C m fr 64 true).1 to (plain sub (m.regs to.reg.toNat) (X.value C m fr 64 true).2) 8 := by
  unfold X.two
  rw [he, hp, h]
theorem two_cmp (C : Cd) (m : Mach) (fr to : Opd) : X.two C m ([99, 109, 112, 113] : Str) fr to = { (X.value C m fr 64 true).1 with x := m.regs to.reg.toNat, y := (X.value C m fr 64 true).2, compared := true } := by
  unfold X.two
  rw [show extTab.lookup ([99, 109, 112, 113] : Str) = none by decide, show partTab.lookup ([99, 109, 112, 113] : Str) = none by decide, show sumTab.lookup ([99, 109, 112, 113] : Str) = none by decide]
  simp only
  rw [if_neg (by decide), if_pos trivial]
theorem none_sysout (C : Cd) (m : Mach) : X.none' C m ([115, 121, 115, 111, 117, 116] : Str) = { m with out := m.out ++ [X.byteOf (m.regs 5) 0] } := by
  unfold X.none'
  rw [if_neg (by decide), if_neg (by decide), if_neg (by decide), if_pos rfl]
theorem none_ret (C : Cd) (m : Mach) : X.none' C m ([114, 101, 116] : Str) = (if (X.pop C m).2 = 0 ∧ (X.pop C m).1.kind = 0 then halt (X.pop C m).1 1 ((X.pop C m).1.regs 0) else leap C (X.pop C m).1 (X.pop C m).2) := by
  unfold X.none'
  rw [if_pos rfl]
theorem one_push (C : Cd) (m : Mach) (o : Opd) : X.one C m ([112, 117, 115, 104, 113] : Str) o = X.push C m (m.regs o.reg.toNat) := by
  unfold X.one
  rw [if_neg (by decide), if_neg (by decide), if_neg (by decide), if_neg (by decide), if_neg (by decide), if_pos rfl]
theorem one_pop (C : Cd) (m : Mach) (o : Opd) : X.one C m ([112, 111, 112, 113] : Str) o = X.move C (X.pop C m).1 o (X.pop C m).2 8 := by
  unfold X.one
  rw [if_neg (by decide), if_neg (by decide), if_neg (by decide), if_neg (by decide), if_neg (by decide), if_neg (by decide), if_pos rfl]
theorem one_call (C : Cd) (m : Mach) (o : Opd) : X.one C m ([99, 97, 108, 108] : Str) o = leap C (X.push C m (268435456 + m.at_)) (target C m o) := by
  unfold X.one
  rw [if_neg (by decide), if_neg (by decide), if_neg (by decide), if_neg (by decide), if_pos rfl]
/-- What set of a condition writes. -/
theorem one_set (C : Cd) (m : Mach) (c : Str) (hc : c ∈ conds) (o : Opd) (h : m.compared = true) : X.one C m (([115, 101, 116] : Str) ++ c) o = X.move C m o (Go.bits .or .i64 (Go.bits .andNot .i64 (m.regs o.reg.toNat) 255) (if cond c m.x m.y then 1 else 0)) 1 := by
  have e : ∀ c ∈ conds, (([115, 101, 116] : Str) ++ c ≠ ([110, 101, 103, 113] : Str) ∧ ([115, 101, 116] : Str) ++ c ≠ ([110, 111, 116, 113] : Str) ∧ ¬ (([115, 101, 116] : Str) ++ c = ([105, 100, 105, 118, 113] : Str) ∨ ([115, 101, 116] : Str) ++ c = ([100, 105, 118, 113] : Str)) ∧ ([115, 101, 116] : Str) ++ c ≠ ([106, 109, 112] : Str) ∧ ([115, 101, 116] : Str) ++ c ≠ ([99, 97, 108, 108] : Str) ∧ ([115, 101, 116] : Str) ++ c ≠ ([112, 117, 115, 104, 113] : Str) ∧ ([115, 101, 116] : Str) ++ c ≠ ([112, 111, 112, 113] : Str)) ∧ Lib.hasPrefix (([115, 101, 116] : Str) ++ c) ([115, 101, 116] : Str) = true ∧ Lib.trimPrefix (([115, 101, 116] : Str) ++ c) ([115, 101, 116] : Str) = c := by decide
  obtain ⟨⟨e1, e2, e3, e4, e5, e6, e7⟩, e8, e9⟩ := e c hc
  unfold X.one
  rw [if_neg e1, if_neg e2, if_neg e3, if_neg e4, if_neg e5, if_neg e6, if_neg e7, if_pos e8, e9]
  unfold holds
  rw [h, if_pos rfl]
theorem one_j (C : Cd) (m : Mach) (c : Str) (hc : c ∈ conds) (o : Opd) (h : m.compared = true) : X.one C m (([106] : Str) ++ c) o = if cond c m.x m.y then leap C m (target C m o) else m := by
  have e : ∀ c ∈ conds, (([106] : Str) ++ c ≠ ([110, 101, 103, 113] : Str) ∧ ([106] : Str) ++ c ≠ ([110, 111, 116, 113] : Str) ∧ ¬ (([106] : Str) ++ c = ([105, 100, 105, 118, 113] : Str) ∨ ([106] : Str) ++ c = ([100, 105, 118, 113] : Str)) ∧ ([106] : Str) ++ c ≠ ([106, 109, 112] : Str) ∧ ([106] : Str) ++ c ≠ ([99, 97, 108, 108] : Str) ∧ ([106] : Str) ++ c ≠ ([112, 117, 115, 104, 113] : Str) ∧ ([106] : Str) ++ c ≠ ([112, 111, 112, 113] : Str)) ∧ ¬ Lib.hasPrefix (([106] : Str) ++ c) ([115, 101, 116] : Str) = true := by decide
  obtain ⟨⟨e1, e2, e3, e4, e5, e6, e7⟩, e8⟩ := e c hc
  unfold X.one
  rw [if_neg e1, if_neg e2, if_neg e3, if_neg e4, if_neg e5, if_neg e6, if_neg e7, if_neg e8, show (([106] : Str) ++ c).drop 1 = c from rfl]
  unfold holds
  rw [h, if_pos rfl]
end Go.Proofs.YtfkfdffhajokkaaGreatDoor.Pl
/- What the program of the statement X86Words reads as and comes to; in plain Lean; conditions: two numbers of 64 bits, one of the six sums, one of the ten conditions. -/
namespace Go.Proofs.YtfkfdffhajokkaaGreatDoor.Pl
open Go.RowKit X
set_option linter.unusedSimpArgs false
theorem tryWays_two {labels : List (Str × Int)} {vars : List (Str × (Int × Int))} {w A B f1 f2 : Str} {o1 o2 : Opd} (rest : List (List Str)) (h1 : X.take A f1 = (o1, true)) (h2 : X.take B f2 = (o2, true)) (k1 : X.knows labels vars o1 = true) (k2 : X.knows labels vars o2 = true) :
    tryWays labels vars w [A, B] ([f1, f2] :: rest) = (⟨w, [o1, o2]⟩, true) := by
  have e : tryWay labels vars [f1, f2] [A, B] = ([o1, o2], true) := by simp [tryWay, h1, h2, k1, k2]
  unfold tryWays
  rw [if_neg (by simp), e]
  rfl
theorem tryWays_one {labels : List (Str × Int)} {vars : List (Str × (Int × Int))} {w A f1 : Str} {o1 : Opd} (rest : List (List Str)) (h1 : X.take A f1 = (o1, true)) (k1 : X.knows labels vars o1 = true) :
    tryWays labels vars w [A] ([f1] :: rest) = (⟨w, [o1]⟩, true) := by
  have e : tryWay labels vars [f1] [A] = ([o1], true) := by simp [tryWay, h1, k1]
  unfold tryWays
  rw [if_neg (by simp), e]
  rfl
theorem knows_reg (labels : List (Str × Int)) (vars : List (Str × (Int × Int))) (r b : Int) : X.knows labels vars (regOpd r b) = true := rfl
theorem knows_num (labels : List (Str × Int)) (vars : List (Str × (Int × Int))) (v : Int) : X.knows labels vars (numOpd v) = true := rfl
theorem take_rax (r : Str) : X.take ([37, 114, 97, 120] : Str) (82 :: r) = (regOpd 0 8, true) := rfl
theorem take_rbx (r : Str) : X.take ([37, 114, 98, 120] : Str) (82 :: r) = (regOpd 1 8, true) := rfl
theorem take_rdi (r : Str) : X.take ([37, 114, 100, 105] : Str) (82 :: r) = (regOpd 5 8, true) := rfl
theorem take_dil : X.take ([37, 100, 105, 108] : Str) ([98] : Str) = (regOpd 5 1, true) := by decide
theorem take_rbx_I : X.take ([37, 114, 98, 120] : Str) ([73, 82, 77] : Str) = (regOpd 1 8, true) := by decide
theorem take_rax_I : X.take ([37, 114, 97, 120] : Str) ([73, 82, 77] : Str) = (regOpd 0 8, true) := by decide
/-- The six sums. -/
def opTab : List (Str × Int) := [(([97, 100, 100, 113] : Str), 1), (([115, 117, 98, 113] : Str), 2), (([105, 109, 117, 108, 113] : Str), 3), (([97, 110, 100, 113] : Str), 8), (([111, 114, 113] : Str), 9), (([120, 111, 114, 113] : Str), 10)]
def roundIns : List (Str × Ln) :=
  [(insText ([109, 111, 118, 113] : Str) [([37, 114, 97, 120] : Str), ([37, 114, 100, 105] : Str)], ⟨([109, 111, 118, 113] : Str), [regOpd 0 8, regOpd 5 8]⟩), (insText ([115, 121, 115, 111, 117, 116] : Str) [], ⟨([115, 121, 115, 111, 117, 116] : Str), []⟩), (insText ([115, 104, 114, 113] : Str) [36 :: Lib.itoa 8, ([37, 114, 97, 120] : Str)], ⟨([115, 104, 114, 113] : Str), [numOpd 8, regOpd 0 8]⟩)]
def wordsHead (a b : Int) (op c : Str) : List (Str × Ln) :=
  [(insText ([109, 111, 118, 97, 98, 115, 113] : Str) [36 :: Lib.itoa a, ([37, 114, 97, 120] : Str)], ⟨([109, 111, 118, 97, 98, 115, 113] : Str), [numOpd a, regOpd 0 8]⟩),
   (insText ([109, 111, 118, 97, 98, 115, 113] : Str) [36 :: Lib.itoa b, ([37, 114, 98, 120] : Str)], ⟨([109, 111, 118, 97, 98, 115, 113] : Str), [numOpd b, regOpd 1 8]⟩),
   (insText ([99, 109, 112, 113] : Str) [([37, 114, 98, 120] : Str), ([37, 114, 97, 120] : Str)], ⟨([99, 109, 112, 113] : Str), [regOpd 1 8, regOpd 0 8]⟩),
   (insText (([115, 101, 116] : Str) ++ c) [([37, 100, 105, 108] : Str)], ⟨([115, 101, 116] : Str) ++ c, [regOpd 5 1]⟩),
   (insText ([115, 121, 115, 111, 117, 116] : Str) [], ⟨([115, 121, 115, 111, 117, 116] : Str), []⟩),
   (insText op [([37, 114, 98, 120] : Str), ([37, 114, 97, 120] : Str)], ⟨op, [regOpd 1 8, regOpd 0 8]⟩)]
def wordsIns (a b : Int) (op c : Str) : List (Str × Ln) :=
  wordsHead a b op c ++ roundIns ++ roundIns ++ roundIns ++ roundIns ++ roundIns ++ roundIns ++ roundIns ++ roundIns ++ [(insText ([114, 101, 116] : Str) [], ⟨([114, 101, 116] : Str), []⟩)]
def wordsText (a b : Int) (op c : Str) : Str := joinLines (([109, 97, 105, 110, 58] : Str) :: tabs (wordsIns a b op c))
def wordsCode (a b : Int) (op c : Str) : Cd := ⟨wordsText a b op c, (wordsIns a b op c).map (·.2), [(([109, 97, 105, 110] : Str), 0)], [], [], []⟩
/-- An instruction that is read as it should be, without a line end in it. -/
def Good (labels : List (Str × Int)) (vars : List (Str × (Int × Int))) (p : Str × Ln) : Prop := X.instruction labels vars p.1 = (p.2, true) ∧ ∀ b ∈ p.1, b ≠ (10 : UInt8)
theorem itoa_no {v : Int} {b c : UInt8} (hc : c.toNat < 45 ∨ 58 ≤ c.toNat) (h : b ∈ Lib.itoa v) : b ≠ c := by
  rintro rfl
  have := itoa_mem v b h
  omega
theorem no_app {c : UInt8} {l r : Str} (h1 : ∀ b ∈ l, b ≠ c) (h2 : ∀ b ∈ r, b ≠ c) : ∀ b ∈ l ++ r, b ≠ c := fun b hb => (List.mem_append.1 hb).elim (h1 b) (h2 b)
theorem no_cons {c a : UInt8} {r : Str} (h1 : a ≠ c) (h2 : ∀ b ∈ r, b ≠ c) : ∀ b ∈ a :: r, b ≠ c := fun b hb => (List.mem_cons.1 hb).elim (fun e => e ▸ h1) (h2 b)
theorem good_num {labels : List (Str × Int)} {vars : List (Str × (Int × Int))} (w : Str) (v : Int) (B : Str) (f1 f2 : Str) (o : Opd) (rest : List (List Str)) (hw : X.ways w = [f1, f2] :: rest) (hw9 : ∀ b ∈ w, b ≠ (9 : UInt8)) (hw10 : ∀ b ∈ w, b ≠ (10 : UInt8)) (hB : B ≠ []) (hBs : noSep B = true) (hB10 : ∀ b ∈ B, b ≠ (10 : UInt8))
    (h1 : X.take (36 :: Lib.itoa v) f1 = (numOpd v, true)) (h2 : X.take B f2 = (o, true)) (k2 : X.knows labels vars o = true) : Good labels vars (insText w [36 :: Lib.itoa v, B], ⟨w, [numOpd v, o]⟩) := by
  refine ⟨?_, ?_⟩
  · rw [instruction_2 labels vars w _ B hw9 hB (noSep_imm v) hBs, hw]
    exact tryWays_two rest h1 h2 (knows_num _ _ v) k2
  · exact no_app hw10 (no_cons (by decide) (no_app (no_cons (by decide) fun b hb => itoa_no (by decide) hb) (no_cons (by decide) (no_cons (by decide) hB10))))
theorem good_const {labels : List (Str × Int)} {vars : List (Str × (Int × Int))} (p : Str × Ln) (h : X.instruction labels vars p.1 = (p.2, true)) (h10 : ∀ b ∈ p.1, b ≠ (10 : UInt8)) : Good labels vars p := ⟨h, h10⟩
theorem round_good (labels : List (Str × Int)) (vars : List (Str × (Int × Int))) : ∀ p ∈ roundIns, Good labels vars p := by
  intro p hp
  simp only [roundIns, List.mem_cons, List.not_mem_nil, or_false] at hp
  rcases hp with rfl | rfl | rfl
  · refine ⟨?_, by decide⟩
    rw [instruction_2 labels vars ([109, 111, 118, 113] : Str) ([37, 114, 97, 120] : Str) ([37, 114, 100, 105] : Str) (by decide) (by decide) (by decide) (by decide), show X.ways ([109, 111, 118, 113] : Str) = [([73, 82, 77] : Str), ([82] : Str)] :: [[([73, 82] : Str), ([77] : Str)]] by decide]
    exact tryWays_two _ take_rax_I (take_rdi _) rfl rfl
  · refine ⟨?_, by decide⟩
    rw [instruction_0 labels vars ([115, 121, 115, 111, 117, 116] : Str) (by decide), show X.ways ([115, 121, 115, 111, 117, 116] : Str) = [[]] by decide]
    rfl
  · exact good_num ([115, 104, 114, 113] : Str) 8 ([37, 114, 97, 120] : Str) ([83, 66] : Str) ([82] : Str) _ [] (by decide) (by decide) (by decide) (by decide) (by decide) (by decide) (take_S 8 _ (by decide) (by decide)) (take_rax _) rfl
theorem words_good (a b : Int) (op c : Str) (sub : Int) (ha : I64 a) (hb : I64 b) (hop : (op, sub) ∈ opTab) (hc : c ∈ conds) : ∀ p ∈ wordsIns a b op c, Good [(([109, 97, 105, 110] : Str), 0)] [] p := by
  intro p hp
  unfold wordsIns at hp
  simp only [List.mem_append, List.mem_singleton] at hp
  have hr := round_good [(([109, 97, 105, 110] : Str), 0)] []
  rcases hp with ((((((((hp | hp) | hp) | hp) | hp) | hp) | hp) | hp) | hp) | rfl
  · simp only [wordsHead, List.mem_cons, List.not_mem_nil, or_false] at hp
    rcases hp with rfl | rfl | rfl | rfl | rfl | rfl
    · exact good_num ([109, 111, 118, 97, 98, 115, 113] : Str) a ([37, 114, 97, 120] : Str) ([74] : Str) ([82] : Str) _ [] (by decide) (by decide) (by decide) (by decide) (by decide) (by decide) (take_J a _ ha.1 ha.2) (take_rax _) rfl
    · exact good_num ([109, 111, 118, 97, 98, 115, 113] : Str) b ([37, 114, 98, 120] : Str) ([74] : Str) ([82] : Str) _ [] (by decide) (by decide) (by decide) (by decide) (by decide) (by decide) (take_J b _ hb.1 hb.2) (take_rbx _) rfl
    · refine ⟨?_, by decide⟩
      rw [instruction_2 _ _ ([99, 109, 112, 113] : Str) ([37, 114, 98, 120] : Str) ([37, 114, 97, 120] : Str) (by decide) (by decide) (by decide) (by decide), show X.ways ([99, 109, 112, 113] : Str) = [([73, 82, 77] : Str), ([82] : Str)] :: [] by decide]
      exact tryWays_two _ take_rbx_I (take_rax _) rfl rfl
    · have e : ∀ c ∈ conds, (∀ b ∈ ([115, 101, 116] : Str) ++ c, b ≠ (9 : UInt8)) ∧ X.ways (([115, 101, 116] : Str) ++ c) = [([98] : Str)] :: [] ∧ ∀ b ∈ insText (([115, 101, 116] : Str) ++ c) [([37, 100, 105, 108] : Str)], b ≠ (10 : UInt8) := by decide
      obtain ⟨e1, e2, e3⟩ := e c hc
      refine ⟨?_, e3⟩
      rw [instruction_1 _ _ (([115, 101, 116] : Str) ++ c) ([37, 100, 105, 108] : Str) e1 (by decide) (by decide), e2]
      exact tryWays_one _ take_dil rfl
    · refine ⟨?_, by decide⟩
      rw [instruction_0 _ _ ([115, 121, 115, 111, 117, 116] : Str) (by decide), show X.ways ([115, 121, 115, 111, 117, 116] : Str) = [[]] by decide]
      rfl
    · have e : ∀ q ∈ opTab, (∀ b ∈ q.1, b ≠ (9 : UInt8)) ∧ X.ways q.1 = [([73, 82, 77] : Str), ([82] : Str)] :: [] ∧ ∀ b ∈ insText q.1 [([37, 114, 98, 120] : Str), ([37, 114, 97, 120] : Str)], b ≠ (10 : UInt8) := by decide
      obtain ⟨e1, e2, e3⟩ := e _ hop
      refine ⟨?_, e3⟩
      rw [instruction_2 _ _ op ([37, 114, 98, 120] : Str) ([37, 114, 97, 120] : Str) e1 (by decide) (by decide) (by decide), e2]
      exact tryWays_two _ take_rbx_I (take_rax _) rfl rfl
  · exact hr p hp
  · exact hr p hp
  · exact hr p hp
  · exact hr p hp
  · exact hr p hp
  · exact hr p hp
  · exact hr p hp
  · exact hr p hp
  · refine ⟨?_, by decide⟩
    rw [instruction_0 _ _ ([114, 101, 116] : Str) (by decide), show X.ways ([114, 101, 116] : Str) = [[]] by decide]
    rfl
theorem words_read (a b : Int) (op c : Str) (sub : Int) (ha : I64 a) (hb : I64 b) (hop : (op, sub) ∈ opTab) (hc : c ∈ conds) : X.read (wordsText a b op c) = .ok (wordsCode a b op c) := by
  have h := words_good a b op c sub ha hb hop hc
  exact read_main _ (fun p hp => (h p hp).2) (fun p hp => (h p hp).1)
end Go.Proofs.YtfkfdffhajokkaaGreatDoor.Pl
/- What the program of the statement X86Words comes to when package x86's machine runs it; in plain Lean; conditions: two numbers of 64 bits, one of the six sums, one of the ten conditions. -/
namespace Go.Proofs.YtfkfdffhajokkaaGreatDoor.Pl
open Go.RowKit X
set_option linter.unusedSimpArgs false
/-- The machine as it begins. -/
def start (C : Cd) (input : List UInt8) (sN : Nat) (e : Int) : Mach :=
  { regs := upd (fun r => if r = 7 then 16777216 else if r = 15 then 16777216 - sN else 0) 7 16777208, at_ := e, data := fun i => C.data.getD i 0, stack := putN (fun _ => 0) (sN - 8) 8 0, sN := sN, x := 0, y := 0, compared := false, input := input, kind := 0, code := 0, out := [], least := 9223372036854775807 }
theorem begin_eq (C : Cd) (input : List UInt8) (sN : Nat) (e : Int) (he : C.labels.lookup ([109, 97, 105, 110] : Str) = some e) (h0 : 16 ≤ sN) (h1 : sN ≤ 1048576) : X.begin C input sN = start C input sN e := by
  obtain ⟨m0, hm0⟩ : ∃ m, ({ regs := fun r => if r = 7 then 16777216 else if r = 15 then 16777216 - sN else 0, at_ := (C.labels.lookup ([109, 97, 105, 110] : Str)).getD 0, data := fun i => C.data.getD i 0, stack := fun _ => 0, sN := sN, x := 0, y := 0, compared := false, input := input, kind := 0, code := 0, out := [], least := 9223372036854775807 } : Mach) = m := ⟨_, rfl⟩
  have e0 : X.begin C input sN = X.push C m0 0 := by rw [← hm0]; rfl
  have e7 : m0.regs 7 = 16777216 := by rw [← hm0]; rfl
  have eN : m0.sN = sN := by rw [← hm0]
  have e1 : off m0 (16777216 - 8) = sN - 8 := by unfold off; rw [eN]; omega
  rw [e0, push_room C m0 0 (by rw [e7, eN]; omega) (by rw [e7]; omega) (by rw [eN]; exact h1), e7, e1, ← hm0, he]
  rfl
theorem start_word (C : Cd) (input : List UInt8) (sN : Nat) (e : Int) (h0 : 16 ≤ sN) (h1 : sN ≤ 1048576) : word64 (start C input sN e).stack (off (start C input sN e) 16777208) = 0 := by
  have e1 : off (start C input sN e) 16777208 = sN - 8 := by unfold off start; simp only; omega
  rw [e1]
  exact word64_put _ _ (by unfold I64; omega)
theorem it_num (C : Cd) (m : Mach) (i k : Nat) (hk : m.kind = 0) (ha : m.at_ = i) (w : Str) (v : Int) (r : Nat) (hl : C.lines[i]? = some ⟨w, [numOpd v, regOpd r 8]⟩) (hw : Mov w) : iter C (k + 1) m = iter C k (setReg { m with at_ := (i : Int) + 1 } r v) := by
  rw [iter_step C k m hk, step_at C m i _ ha hl]
  unfold exec
  simp only
  rw [two_mov C _ w hw, value_num, move_reg C { m with at_ := (i : Int) + 1 } r 8 v 8 hk]
theorem it_mov (C : Cd) (m : Mach) (i k : Nat) (hk : m.kind = 0) (ha : m.at_ = i) (r1 r2 : Nat) (hl : C.lines[i]? = some ⟨([109, 111, 118, 113] : Str), [regOpd r1 8, regOpd r2 8]⟩) (h64 : I64 (m.regs r1)) : iter C (k + 1) m = iter C k (setReg { m with at_ := (i : Int) + 1 } r2 (m.regs r1)) := by
  rw [iter_step C k m hk, step_at C m i _ ha hl]
  unfold exec
  simp only
  rw [two_mov C _ _ Mov.movq, value_reg C { m with at_ := (i : Int) + 1 } r1 8 h64, move_reg C { m with at_ := (i : Int) + 1 } r2 8 _ 8 hk]
theorem it_cmp (C : Cd) (m : Mach) (i k : Nat) (hk : m.kind = 0) (ha : m.at_ = i) (r1 r2 : Nat) (hl : C.lines[i]? = some ⟨([99, 109, 112, 113] : Str), [regOpd r1 8, regOpd r2 8]⟩) (h64 : I64 (m.regs r1)) : iter C (k + 1) m = iter C k { m with at_ := (i : Int) + 1, x := m.regs r2, y := m.regs r1, compared := true } := by
  rw [iter_step C k m hk, step_at C m i _ ha hl]
  unfold exec
  simp only
  rw [two_cmp, value_reg C { m with at_ := (i : Int) + 1 } r1 8 h64]
  rfl
theorem it_cmpn (C : Cd) (m : Mach) (i k : Nat) (hk : m.kind = 0) (ha : m.at_ = i) (v : Int) (r2 : Nat) (hl : C.lines[i]? = some ⟨([99, 109, 112, 113] : Str), [numOpd v, regOpd r2 8]⟩) : iter C (k + 1) m = iter C k { m with at_ := (i : Int) + 1, x := m.regs r2, y := v, compared := true } := by
  rw [iter_step C k m hk, step_at C m i _ ha hl]
  unfold exec
  simp only
  rw [two_cmp, value_num]
  rfl
theorem it_set (C : Cd) (m : Mach) (i k : Nat) (hk : m.kind = 0) (ha : m.at_ = i) (c : Str) (hc : c ∈ conds) (r : Nat) (hl : C.lines[i]? = some ⟨([115, 101, 116] : Str) ++ c, [regOpd r 1]⟩) (hm : m.compared = true) : iter C (k + 1) m = iter C k (setReg { m with at_ := (i : Int) + 1 } r (Go.bits .or .i64 (Go.bits .andNot .i64 (m.regs r) 255) (if cond c m.x m.y then 1 else 0))) := by
  rw [iter_step C k m hk, step_at C m i _ ha hl]
  unfold exec
  simp only
  have e := one_set C { m with at_ := (i : Int) + 1 } c hc (regOpd r 1) hm
  simp only [List.cons_append, List.nil_append] at e ⊢
  rw [e, move_reg C { m with at_ := (i : Int) + 1 } r 1 _ 1 hk]
  rfl
theorem it_out (C : Cd) (m : Mach) (i k : Nat) (hk : m.kind = 0) (ha : m.at_ = i) (hl : C.lines[i]? = some ⟨([115, 121, 115, 111, 117, 116] : Str), []⟩) : iter C (k + 1) m = iter C k { m with at_ := (i : Int) + 1, out := m.out ++ [X.byteOf (m.regs 5) 0] } := by
  rw [iter_step C k m hk, step_at C m i _ ha hl]
  unfold exec
  simp only
  rw [none_sysout]
theorem it_sum (C : Cd) (m : Mach) (i k : Nat) (hk : m.kind = 0) (ha : m.at_ = i) (op : Str) (sub : Int) (r1 r2 : Nat) (he : extTab.lookup op = none) (hp : partTab.lookup op = none) (h : sumTab.lookup op = some sub) (hl : C.lines[i]? = some ⟨op, [regOpd r1 8, regOpd r2 8]⟩) (h64 : I64 (m.regs r1)) :
    iter C (k + 1) m = iter C k (setReg { m with at_ := (i : Int) + 1 } r2 (plain sub (m.regs r2) (m.regs r1))) := by
  rw [iter_step C k m hk, step_at C m i _ ha hl]
  unfold exec
  simp only
  rw [two_sum C _ op sub he hp h, value_reg C { m with at_ := (i : Int) + 1 } r1 8 h64, move_reg C { m with at_ := (i : Int) + 1 } r2 8 _ 8 hk]
  rfl
theorem it_sumn (C : Cd) (m : Mach) (i k : Nat) (hk : m.kind = 0) (ha : m.at_ = i) (op : Str) (sub : Int) (v : Int) (r2 : Nat) (he : extTab.lookup op = none) (hp : partTab.lookup op = none) (h : sumTab.lookup op = some sub) (hl : C.lines[i]? = some ⟨op, [numOpd v, regOpd r2 8]⟩) :
    iter C (k + 1) m = iter C k (setReg { m with at_ := (i : Int) + 1 } r2 (plain sub (m.regs r2) v)) := by
  rw [iter_step C k m hk, step_at C m i _ ha hl]
  unfold exec
  simp only
  rw [two_sum C _ op sub he hp h, value_num, move_reg C { m with at_ := (i : Int) + 1 } r2 8 _ 8 hk]
  rfl
/-- A return from main. -/
theorem it_end (C : Cd) (m : Mach) (i k : Nat) (hk : m.kind = 0) (ha : m.at_ = i) (hl : C.lines[i]? = some ⟨([114, 101, 116] : Str), []⟩) (h0 : 16777216 - (m.sN : Int) ≤ m.regs 7) (h1 : m.regs 7 ≤ 16777216 - 8) (hs : m.sN ≤ 1048576) (hz : word64 m.stack (off m (m.regs 7)) = 0) :
    iter C (k + 1) m = { m with at_ := (i : Int) + 1, regs := upd m.regs 7 (m.regs 7 + 8), kind := 1, code := Go.bits .and .i64 (m.regs 0) 255 } := by
  rw [iter_step C k m hk, step_at C m i _ ha hl]
  unfold exec
  simp only
  rw [none_ret, pop_word C { m with at_ := (i : Int) + 1 } h0 h1 hs]
  have e : (word64 m.stack (off { m with at_ := (i : Int) + 1 } (m.regs 7)) = 0) := hz
  simp only [e, setReg]
  rw [if_pos ⟨trivial, hk⟩, iter_over]
  · unfold halt
    rw [if_neg (by simp [hk])]
    rfl
  · unfold halt
    rw [if_neg (by simp [hk])]
    show (1 : Int) ≠ 0
    decide
theorem u64_wrap64 {x : Int} (h0 : 0 ≤ x) (h1 : x < 18446744073709551616) : u64 (wrap64 x) = x := by rw [u64_mod]; unfold wrap64; omega
theorem u64_range (n : Int) : 0 ≤ u64 n ∧ u64 n < 18446744073709551616 := by rw [u64_mod]; omega
/-- One round: the lowest byte is put out. -/
theorem one_round (C : Cd) (m : Mach) (i k j : Nat) (n : Int) (hk : m.kind = 0) (ha : m.at_ = i) (h0 : C.lines[i]? = some ⟨([109, 111, 118, 113] : Str), [regOpd 0 8, regOpd 5 8]⟩) (h1 : C.lines[i + 1]? = some ⟨([115, 121, 115, 111, 117, 116] : Str), []⟩) (h2 : C.lines[i + 2]? = some ⟨([115, 104, 114, 113] : Str), [numOpd 8, regOpd 0 8]⟩)
    (h64 : I64 (m.regs 0)) (hv : u64 (m.regs 0) = u64 n / 2 ^ (8 * j)) :
    ∃ m', iter C (k + 3) m = iter C k m' ∧ m'.kind = 0 ∧ m'.at_ = ((i + 3 : Nat) : Int) ∧ I64 (m'.regs 0) ∧ u64 (m'.regs 0) = u64 n / 2 ^ (8 * (j + 1)) ∧ m'.out = m.out ++ [X.byteOf n j] ∧ m'.regs 7 = m.regs 7 ∧ m'.stack = m.stack ∧ m'.sN = m.sN := by
  obtain ⟨u0, u1⟩ := u64_range (m.regs 0)
  have e1 := it_mov C m i (k + 2) hk ha 0 5 h0 h64
  have e2 := it_out C (setReg { m with at_ := (i : Int) + 1 } 5 (m.regs 0)) (i + 1) (k + 1) hk (by simp [setReg]) h1
  have e3 := it_sumn C { (setReg { m with at_ := (i : Int) + 1 } 5 (m.regs 0)) with at_ := ((i + 1 : Nat) : Int) + 1, out := m.out ++ [X.byteOf (m.regs 0) 0] } (i + 2) k hk (by simp; omega) ([115, 104, 114, 113] : Str) 12 8 0 (by decide) (by decide) (by decide) h2
  have hp : plain 12 (m.regs 0) 8 = wrap64 (u64 (m.regs 0) / 256) := by unfold plain; rw [if_neg (by decide), if_neg (by decide), if_neg (by decide), if_neg (by decide), if_neg (by decide), if_neg (by decide), if_neg (by decide), if_pos rfl, show ((8 : Int) % 64).toNat = 8 by decide, show (2 : Int) ^ 8 = 256 by decide]
  obtain ⟨p, hq⟩ : ∃ p, plain 12 (m.regs 0) 8 = p := ⟨_, rfl⟩
  have e4 : iter C (k + 1) { (setReg { m with at_ := (i : Int) + 1 } 5 (m.regs 0)) with at_ := ((i + 1 : Nat) : Int) + 1, out := m.out ++ [X.byteOf (m.regs 0) 0] } = iter C k (setReg { (setReg { m with at_ := (i : Int) + 1 } 5 (m.regs 0)) with at_ := ((i + 2 : Nat) : Int) + 1, out := m.out ++ [X.byteOf (m.regs 0) 0] } 0 p) := by
    rw [← hq]; exact e3
  rw [hq] at hp
  refine ⟨_, e1.trans (e2.trans e4), hk, by simp [setReg]; omega, ?_, ?_, ?_, rfl, rfl, rfl⟩
  · show I64 p
    rw [hp]; exact I64.wrap _
  · show u64 p = _
    rw [hp, u64_wrap64 (by omega) (by omega), hv, show 8 * (j + 1) = 8 * j + 8 by omega, Int.pow_add, show (2 : Int) ^ 8 = 256 by decide, ← Int.ediv_ediv_of_nonneg (Int.pow_nonneg (by decide))]
  · show m.out ++ [X.byteOf (m.regs 0) 0] = _
    congr 2
    unfold X.byteOf
    rw [← u64_mod, ← u64_mod, hv]
    obtain ⟨v, hv2⟩ : ∃ v : Nat, u64 n = v := ⟨(u64 n).toNat, by have := (u64_range n).1; omega⟩
    rw [hv2]
    have e : ((v : Int) / 2 ^ (8 * j)).toNat = v / 2 ^ (8 * j) := by
      rw [show ((2 : Int) ^ (8 * j)) = ((2 ^ (8 * j) : Nat) : Int) by push_cast; rfl, ← Int.natCast_ediv, Int.toNat_natCast]
    rw [e, Int.toNat_natCast]
    simp
theorem plain_I64 (sub a b : Int) (h : (sub = 1 ∨ sub = 2 ∨ sub = 3 ∨ sub = 8 ∨ sub = 9 ∨ sub = 10)) : I64 (plain sub a b) := by
  have hb : ∀ op, Go.bits op .i64 a b = IntKind.i64.wrap (Go.bits op .i64 a b) → I64 (Go.bits op .i64 a b) := by
    intro op e
    rw [e, IntKind.wrap_i64]
    unfold I64
    omega
  rcases h with rfl | rfl | rfl | rfl | rfl | rfl
  · exact I64.wrap _
  · exact I64.wrap _
  · exact I64.wrap _
  · show I64 (Go.bits .and .i64 a b)
    have e : Go.bits .and .i64 a b = IntKind.i64.wrap ((BitVec.ofInt 64 a &&& BitVec.ofInt 64 b).toNat : Int) := rfl
    rw [e, IntKind.wrap_i64]; unfold I64; omega
  · show I64 (Go.bits .or .i64 a b)
    have e : Go.bits .or .i64 a b = IntKind.i64.wrap ((BitVec.ofInt 64 a ||| BitVec.ofInt 64 b).toNat : Int) := rfl
    rw [e, IntKind.wrap_i64]; unfold I64; omega
  · show I64 (Go.bits .xor .i64 a b)
    have e : Go.bits .xor .i64 a b = IntKind.i64.wrap ((BitVec.ofInt 64 a ^^^ BitVec.ofInt 64 b).toNat : Int) := rfl
    rw [e, IntKind.wrap_i64]; unfold I64; omega
theorem op_facts : ∀ q ∈ opTab, extTab.lookup q.1 = none ∧ partTab.lookup q.1 = none ∧ sumTab.lookup q.1 = some q.2 ∧ (q.2 = 1 ∨ q.2 = 2 ∨ q.2 = 3 ∨ q.2 = 8 ∨ q.2 = 9 ∨ q.2 = 10) := by decide
set_option maxHeartbeats 4000000 in
/-- What the words' program comes to. -/
theorem words_run (a b : Int) (op c : Str) (sub : Int) (hb : I64 b) (hop : (op, sub) ∈ opTab) (hc : c ∈ conds) :
    ∃ m, X.run (wordsCode a b op c) [] 100 64 = m ∧ m.kind = 1 ∧ m.code = 0 ∧ m.out = (if cond c a b then 1 else 0) :: (List.range 8).map (X.byteOf (plain sub a b)) := by
  obtain ⟨C, hC⟩ : ∃ C, wordsCode a b op c = C := ⟨_, rfl⟩
  have hl : C.lines = (wordsIns a b op c).map (·.2) := by rw [← hC]; rfl
  have hmain : C.labels.lookup ([109, 97, 105, 110] : Str) = some 0 := by rw [← hC]; rfl
  rw [hC]
  obtain ⟨n, hn⟩ : ∃ n, plain sub a b = n := ⟨_, rfl⟩
  obtain ⟨o1, o2, o3, o4⟩ := op_facts _ hop
  have hn64 : I64 n := by rw [← hn]; exact plain_I64 sub a b o4
  unfold X.run
  rw [runN_eq, begin_eq C [] 64 0 hmain (by decide) (by decide)]
  have hfetch : ∀ i : Nat, C.lines[i]? = ((wordsIns a b op c).map (·.2))[i]? := fun i => by rw [hl]
  have e1 := it_num C (start C [] 64 0) 0 99 rfl rfl ([109, 111, 118, 97, 98, 115, 113] : Str) a 0 (by rw [hfetch]; rfl) Mov.movabsq
  have e2 := it_num C _ 1 98 (show (setReg { (start C [] 64 0) with at_ := ((0 : Nat) : Int) + 1 } 0 a).kind = 0 from rfl) rfl ([109, 111, 118, 97, 98, 115, 113] : Str) b 1 (by rw [hfetch]; rfl) Mov.movabsq
  have e3 := it_cmp C _ 2 97 (show (setReg { (setReg { (start C [] 64 0) with at_ := ((0 : Nat) : Int) + 1 } 0 a) with at_ := ((1 : Nat) : Int) + 1 } 1 b).kind = 0 from rfl) rfl 1 0 (by rw [hfetch]; rfl) hb
  obtain ⟨m3, hm3⟩ : ∃ m, ({ (setReg { (setReg { (start C [] 64 0) with at_ := ((0 : Nat) : Int) + 1 } 0 a) with at_ := ((1 : Nat) : Int) + 1 } 1 b) with at_ := ((2 : Nat) : Int) + 1, x := a, y := b, compared := true } : Mach) = m := ⟨_, rfl⟩
  have f1 := e1.trans (e2.trans (e3.trans (congrArg (iter C 97) hm3)))
  have q1 : m3.kind = 0 ∧ m3.at_ = 3 ∧ m3.compared = true ∧ m3.x = a ∧ m3.y = b ∧ m3.regs 5 = 0 ∧ m3.regs 0 = a ∧ m3.regs 1 = b ∧ m3.regs 7 = 16777208 ∧ m3.out = [] ∧ m3.stack = (start C [] 64 0).stack ∧ m3.sN = 64 := by rw [← hm3]; exact ⟨rfl, rfl, rfl, rfl, rfl, rfl, rfl, rfl, rfl, rfl, rfl, rfl⟩
  obtain ⟨q1, q2, q3, q4, q5, q6, q7, q8, q9, q10, q11, q12⟩ := q1
  have e4 := it_set C m3 3 96 q1 (by rw [q2]; rfl) c hc 5 (by rw [hfetch]; rfl) q3
  have eb : (Go.bits .or .i64 (Go.bits .andNot .i64 (m3.regs 5) 255) (if cond c m3.x m3.y then 1 else 0)) = if cond c a b then 1 else 0 := by rw [q4, q5, q6]; cases cond c a b <;> rfl
  rw [eb] at e4
  have e5 := it_out C (setReg { m3 with at_ := ((3 : Nat) : Int) + 1 } 5 (if cond c a b then 1 else 0)) 4 95 q1 rfl (by rw [hfetch]; rfl)
  have e6 := it_sum C { (setReg { m3 with at_ := ((3 : Nat) : Int) + 1 } 5 (if cond c a b then 1 else 0)) with at_ := ((4 : Nat) : Int) + 1, out := m3.out ++ [X.byteOf (if cond c a b then 1 else 0) 0] } 5 94 q1 rfl op sub 1 0 o1 o2 o3 (by rw [hfetch]; rfl) (by show I64 (m3.regs 1); rw [q8]; exact hb)
  obtain ⟨m0, hm0⟩ : ∃ m, (setReg { (setReg { m3 with at_ := ((3 : Nat) : Int) + 1 } 5 (if cond c a b then 1 else 0)) with at_ := ((5 : Nat) : Int) + 1, out := m3.out ++ [X.byteOf (if cond c a b then 1 else 0) 0] } 0 n : Mach) = m := ⟨_, rfl⟩
  have f2 : iter C 97 m3 = iter C 94 m0 := by
    refine e4.trans (e5.trans (e6.trans ?_))
    rw [← hm0]
    have e : plain sub (m3.regs 0) (m3.regs 1) = n := by rw [q7, q8, hn]
    rw [← e]
    rfl
  have z1 : m0.kind = 0 ∧ m0.at_ = ((6 : Nat) : Int) ∧ m0.regs 0 = n ∧ m0.regs 7 = 16777208 ∧ m0.out = [if cond c a b then 1 else 0] ∧ m0.stack = (start C [] 64 0).stack ∧ m0.sN = 64 := by
    rw [← hm0]
    refine ⟨q1, rfl, rfl, q9, ?_, q11, q12⟩
    show m3.out ++ [X.byteOf (if cond c a b then 1 else 0) 0] = _
    rw [q10]
    cases cond c a b <;> rfl
  obtain ⟨k0, a0, v0, r0, oo0, s0, n0⟩ := z1
  have i0 : I64 (m0.regs 0) := by rw [v0]; exact hn64
  have v0 : u64 (m0.regs 0) = u64 n / 2 ^ (8 * 0) := by rw [v0]; simp
  have fl : ∀ (i : Nat) (l : Ln), ((wordsIns a b op c).map (·.2))[i]? = some l → C.lines[i]? = some l := fun i l h => by rw [hfetch]; exact h
  obtain ⟨m1, e1', k1, a1, i1, v1, oo1, r1, s1, n1⟩ := one_round C m0 6 91 0 n k0 a0 (fl _ _ rfl) (fl _ _ rfl) (fl _ _ rfl) i0 v0
  obtain ⟨m2, e2', k2, a2, i2, v2, oo2, r2, s2, n2⟩ := one_round C m1 9 88 1 n k1 a1 (fl _ _ rfl) (fl _ _ rfl) (fl _ _ rfl) i1 v1
  obtain ⟨m3', e3', k3, a3, i3, v3, oo3, r3, s3, n3⟩ := one_round C m2 12 85 2 n k2 a2 (fl _ _ rfl) (fl _ _ rfl) (fl _ _ rfl) i2 v2
  obtain ⟨m4, e4', k4, a4, i4, v4, oo4, r4, s4, n4⟩ := one_round C m3' 15 82 3 n k3 a3 (fl _ _ rfl) (fl _ _ rfl) (fl _ _ rfl) i3 v3
  obtain ⟨m5, e5', k5, a5, i5, v5, oo5, r5, s5, n5⟩ := one_round C m4 18 79 4 n k4 a4 (fl _ _ rfl) (fl _ _ rfl) (fl _ _ rfl) i4 v4
  obtain ⟨m6, e6', k6, a6, i6, v6, oo6, r6, s6, n6⟩ := one_round C m5 21 76 5 n k5 a5 (fl _ _ rfl) (fl _ _ rfl) (fl _ _ rfl) i5 v5
  obtain ⟨m7, e7', k7, a7, i7, v7, oo7, r7, s7, n7⟩ := one_round C m6 24 73 6 n k6 a6 (fl _ _ rfl) (fl _ _ rfl) (fl _ _ rfl) i6 v6
  obtain ⟨m8, e8', k8, a8, i8, v8, oo8, r8, s8, n8⟩ := one_round C m7 27 70 7 n k7 a7 (fl _ _ rfl) (fl _ _ rfl) (fl _ _ rfl) i7 v7
  have R7 : m8.regs 7 = 16777208 := by rw [r8, r7, r6, r5, r4, r3, r2, r1, r0]
  have S8 : m8.stack = (start C [] 64 0).stack := by rw [s8, s7, s6, s5, s4, s3, s2, s1, s0]
  have N8 : m8.sN = 64 := by rw [n8, n7, n6, n5, n4, n3, n2, n1, n0]
  have V8 : m8.regs 0 = 0 := by
    have hu := (u64_range n)
    have e : u64 (m8.regs 0) = 0 := by rw [v8]; exact Int.ediv_eq_zero_of_lt hu.1 (by simpa using hu.2)
    rw [u64_mod] at e
    unfold I64 at i8
    omega
  have e9 := it_end C m8 30 69 k8 a8 (fl _ _ rfl) (by rw [R7, N8]; decide) (by rw [R7]; decide) (by rw [N8]; decide) (by
    have := start_word C [] 64 0 (by decide) (by decide)
    rw [S8, R7, show off m8 16777208 = off (start C [] 64 0) 16777208 by unfold off; rw [N8]; rfl]
    exact this)
  have F := f1.trans (f2.trans (e1'.trans (e2'.trans (e3'.trans (e4'.trans (e5'.trans (e6'.trans (e7'.trans (e8'.trans e9)))))))))
  rw [F]
  refine ⟨_, rfl, ?_, ?_, ?_⟩
  · rfl
  · show Go.bits .and .i64 (m8.regs 0) 255 = 0
    rw [V8]; rfl
  · show m8.out = _
    rw [oo8, oo7, oo6, oo5, oo4, oo3, oo2, oo1, oo0, hn]
    simp [List.range_succ]
end Go.Proofs.YtfkfdffhajokkaaGreatDoor.Pl
/- What the program of the statement X86Stack reads as and comes to; in plain Lean; conditions: up to 20 bytes, a stack of at least two words. -/
namespace Go.Proofs.YtfkfdffhajokkaaGreatDoor.Pl
open Go.RowKit X
set_option linter.unusedSimpArgs false
theorem lows_step (C : Cd) (k : Nat) (m : Mach) (l : Int) (h : m.kind = 0) : lows C (k + 1) m l = lows C k (X.step C m) (min l (m.regs 7)) := by
  show (if m.kind ≠ 0 then min l (m.regs 7) else lows C k (X.step C m) (min l (m.regs 7))) = _
  rw [if_neg (by simp [h])]
theorem lows_over (C : Cd) (k : Nat) (m : Mach) (l : Int) (h : m.kind ≠ 0) : lows C k m l = min l (m.regs 7) := by
  cases k with
  | zero => rfl
  | succ k =>
    show (if m.kind ≠ 0 then min l (m.regs 7) else lows C k (X.step C m) (min l (m.regs 7))) = _
    rw [if_pos h]
theorem lows_first (C : Cd) (k : Nat) (m : Mach) (l : Int) : lows C k m (min l (m.regs 7)) = lows C k m l := by
  cases k with
  | zero => show min (min l (m.regs 7)) (m.regs 7) = min l (m.regs 7); omega
  | succ k =>
    show (if m.kind ≠ 0 then min (min l (m.regs 7)) (m.regs 7) else lows C k (X.step C m) (min (min l (m.regs 7)) (m.regs 7))) = (if m.kind ≠ 0 then min l (m.regs 7) else lows C k (X.step C m) (min l (m.regs 7)))
    rw [show min (min l (m.regs 7)) (m.regs 7) = min l (m.regs 7) by omega]
/-- What lies on the stack, the last one first. -/
structure StackIs (m : Mach) (vals : List Int) : Prop where
  sp : m.regs 7 = 16777216 - 8 * (vals.length : Int)
  room : 8 * vals.length ≤ m.sN
  top : m.sN ≤ 1048576
  word : ∀ i v, vals[i]? = some v → word64 m.stack (m.sN - 8 * vals.length + 8 * i) = v
theorem StackIs.same {m m' : Mach} {vals : List Int} (h : StackIs m vals) (h7 : m'.regs 7 = m.regs 7) (hs : m'.stack = m.stack) (hn : m'.sN = m.sN) : StackIs m' vals :=
  ⟨by rw [h7]; exact h.sp, by rw [hn]; exact h.room, by rw [hn]; exact h.top, fun i v hv => by rw [hs, hn]; exact h.word i v hv⟩
theorem StackIs.start (C : Cd) (input : List UInt8) (sN : Nat) (e : Int) (h0 : 16 ≤ sN) (h1 : sN ≤ 1048576) : StackIs (start C input sN e) [0] := by
  refine ⟨rfl, by show 8 * 1 ≤ sN; omega, h1, fun i v hv => ?_⟩
  cases i with
  | succ i => simp at hv
  | zero =>
    have hv : 0 = v := by simpa using hv
    subst hv
    exact word64_put _ _ (by unfold I64; omega)
theorem StackIs.push {m : Mach} {vals : List Int} (h : StackIs m vals) (C : Cd) {n : Int} (hn : I64 n) (hr : 8 * (vals.length + 1) ≤ m.sN) :
    ∃ p st, p = 16777216 - 8 * ((vals.length + 1 : Nat) : Int) ∧ X.push C m n = { setReg m 7 p with stack := st } ∧ StackIs { setReg m 7 p with stack := st } (n :: vals) := by
  have hsp := h.sp
  have ht := h.top
  obtain ⟨p, hp⟩ : ∃ p, m.regs 7 - 8 = p := ⟨_, rfl⟩
  have hp2 : p = 16777216 - 8 * ((vals.length + 1 : Nat) : Int) := by omega
  have e : X.push C m n = _ := push_room C m n (by omega) (by omega) ht
  have eo : off m p = m.sN - 8 * (vals.length + 1) := by unfold off; omega
  rw [hp, eo] at e
  refine ⟨p, _, hp2, e, ?_, by show 8 * (n :: vals).length ≤ m.sN; rw [List.length_cons]; exact hr, ht, fun i v hv => ?_⟩
  · rw [List.length_cons, ← hp2]
    rfl
  · show word64 (putN m.stack (m.sN - 8 * (vals.length + 1)) 8 n) (m.sN - 8 * (n :: vals).length + 8 * i) = v
    rw [List.length_cons]
    cases i with
    | zero =>
      have hv : n = v := by simpa using hv
      subst hv
      exact word64_put _ _ hn
    | succ i =>
      rw [List.getElem?_cons_succ] at hv
      have hi : i < vals.length := (List.getElem?_eq_some_iff.1 hv).1
      rw [word64_other _ _ _ _ _ (by omega), show m.sN - 8 * (vals.length + 1) + 8 * (i + 1) = m.sN - 8 * vals.length + 8 * i by omega]
      exact h.word i v hv
theorem StackIs.pop {m : Mach} {n : Int} {vals : List Int} (h : StackIs m (n :: vals)) (C : Cd) : ∃ p, p = 16777216 - 8 * (vals.length : Int) ∧ X.pop C m = (setReg m 7 p, n) ∧ StackIs (setReg m 7 p) vals := by
  have hsp := h.sp
  have ht := h.top
  have hr := h.room
  rw [List.length_cons] at hsp hr
  have e := pop_word C m (by omega) (by omega) ht
  have w := h.word 0 n rfl
  rw [List.length_cons] at w
  have eo : off m (m.regs 7) = m.sN - 8 * (vals.length + 1) + 8 * 0 := by unfold off; omega
  obtain ⟨p, hp⟩ : ∃ p, m.regs 7 + 8 = p := ⟨_, rfl⟩
  have hp2 : p = 16777216 - 8 * (vals.length : Int) := by omega
  rw [eo, w, hp] at e
  refine ⟨p, hp2, e, ?_, by show 8 * vals.length ≤ m.sN; omega, ht, fun i v hv => ?_⟩
  · rw [← hp2]
    rfl
  · show word64 m.stack (m.sN - 8 * vals.length + 8 * i) = v
    have := h.word (i + 1) v (by rw [List.getElem?_cons_succ]; exact hv)
    rw [List.length_cons] at this
    rw [← this]
    have hi : i < vals.length := (List.getElem?_eq_some_iff.1 hv).1
    congr 1
    omega
theorem st_num (C : Cd) (m : Mach) (i : Nat) (hk : m.kind = 0) (ha : m.at_ = i) (w : Str) (v : Int) (r : Nat) (hl : C.lines[i]? = some ⟨w, [numOpd v, regOpd r 8]⟩) (hw : Mov w) : X.step C m = setReg { m with at_ := (i : Int) + 1 } r v := by
  rw [step_at C m i _ ha hl]
  unfold exec
  simp only
  rw [two_mov C _ w hw, value_num, move_reg C { m with at_ := (i : Int) + 1 } r 8 v 8 hk]
theorem st_push (C : Cd) (m : Mach) (i : Nat) (ha : m.at_ = i) (r : Nat) (hl : C.lines[i]? = some ⟨([112, 117, 115, 104, 113] : Str), [regOpd r 8]⟩) : X.step C m = X.push C { m with at_ := (i : Int) + 1 } (m.regs r) := by
  rw [step_at C m i _ ha hl]
  unfold exec
  simp only
  rw [one_push]
  rfl
theorem st_pop (C : Cd) (m : Mach) (i : Nat) (ha : m.at_ = i) (r : Nat) (m' : Mach) (v : Int) (hl : C.lines[i]? = some ⟨([112, 111, 112, 113] : Str), [regOpd r 8]⟩) (hp : X.pop C { m with at_ := (i : Int) + 1 } = (m', v)) (hk' : m'.kind = 0) : X.step C m = setReg m' r v := by
  rw [step_at C m i _ ha hl]
  unfold exec
  simp only
  rw [one_pop, hp, move_reg C m' r 8 v 8 hk']
theorem st_out (C : Cd) (m : Mach) (i : Nat) (ha : m.at_ = i) (hl : C.lines[i]? = some ⟨([115, 121, 115, 111, 117, 116] : Str), []⟩) : X.step C m = { m with at_ := (i : Int) + 1, out := m.out ++ [X.byteOf (m.regs 5) 0] } := by
  rw [step_at C m i _ ha hl]
  unfold exec
  simp only
  rw [none_sysout]
theorem st_ret0 (C : Cd) (m : Mach) (i : Nat) (ha : m.at_ = i) (m' : Mach) (hl : C.lines[i]? = some ⟨([114, 101, 116] : Str), []⟩) (hp : X.pop C { m with at_ := (i : Int) + 1 } = (m', 0)) (hk' : m'.kind = 0) : X.step C m = { m' with kind := 1, code := Go.bits .and .i64 (m'.regs 0) 255 } := by
  rw [step_at C m i _ ha hl]
  unfold exec
  simp only
  rw [none_ret, hp]
  simp only
  rw [if_pos ⟨trivial, hk'⟩]
  unfold halt
  rw [if_neg (by simp [hk'])]
  rfl
theorem st_ret (C : Cd) (m : Mach) (i : Nat) (ha : m.at_ = i) (m' : Mach) (v : Int) (hl : C.lines[i]? = some ⟨([114, 101, 116] : Str), []⟩) (hp : X.pop C { m with at_ := (i : Int) + 1 } = (m', v)) (hv : v ≠ 0) : X.step C m = leap C m' v := by
  rw [step_at C m i _ ha hl]
  unfold exec
  simp only
  rw [none_ret, hp]
  simp only
  rw [if_neg (fun h => hv h.1)]
theorem drop_get {α : Type} {l r : List α} {i : Nat} {a : α} (h : l.drop i = a :: r) : l[i]? = some a ∧ l.drop (i + 1) = r := by
  refine ⟨?_, ?_⟩
  · have := congrArg List.head? h
    rw [List.head?_drop] at this
    exact this
  · rw [← List.tail_drop, h]; rfl
/-! ### The stack's program -/
def pushIns (n : UInt8) : List (Str × Ln) :=
  [(insText ([109, 111, 118, 113] : Str) [36 :: Lib.itoa (n.toNat : Int), ([37, 114, 98, 120] : Str)], ⟨([109, 111, 118, 113] : Str), [numOpd (n.toNat : Int), regOpd 1 8]⟩), (insText ([112, 117, 115, 104, 113] : Str) [([37, 114, 98, 120] : Str)], ⟨([112, 117, 115, 104, 113] : Str), [regOpd 1 8]⟩)]
def popIns : List (Str × Ln) := [(insText ([112, 111, 112, 113] : Str) [([37, 114, 100, 105] : Str)], ⟨([112, 111, 112, 113] : Str), [regOpd 5 8]⟩), (insText ([115, 121, 115, 111, 117, 116] : Str) [], ⟨([115, 121, 115, 111, 117, 116] : Str), []⟩)]
def retIns : List (Str × Ln) := [(insText ([114, 101, 116] : Str) [], ⟨([114, 101, 116] : Str), []⟩)]
def stackIns (ns : List UInt8) : List (Str × Ln) := ns.flatMap pushIns ++ (ns.flatMap (fun _ => popIns) ++ retIns)
def stackText (ns : List UInt8) : Str := joinLines (([109, 97, 105, 110, 58] : Str) :: tabs (stackIns ns))
def stackCode (ns : List UInt8) : Cd := ⟨stackText ns, (stackIns ns).map (·.2), [(([109, 97, 105, 110] : Str), 0)], [], [], []⟩
theorem stack_good (ns : List UInt8) (labels : List (Str × Int)) (vars : List (Str × (Int × Int))) : ∀ p ∈ stackIns ns, Good labels vars p := by
  intro p hp
  unfold stackIns at hp
  simp only [List.mem_append, List.mem_flatMap] at hp
  rcases hp with ⟨n, -, hp⟩ | ⟨n, -, hp⟩ | hp
  · have hn := n.toNat_lt
    simp only [pushIns, List.mem_cons, List.not_mem_nil, or_false] at hp
    rcases hp with rfl | rfl
    · exact good_num ([109, 111, 118, 113] : Str) n.toNat ([37, 114, 98, 120] : Str) ([73, 82, 77] : Str) ([82] : Str) _ [[([73, 82] : Str), ([77] : Str)]] (by decide) (by decide) (by decide) (by decide) (by decide) (by decide) (take_I _ _ (by omega) (by omega)) (take_rbx _) rfl
    · refine ⟨?_, by decide⟩
      rw [instruction_1 _ _ ([112, 117, 115, 104, 113] : Str) ([37, 114, 98, 120] : Str) (by decide) (by decide) (by decide), show X.ways ([112, 117, 115, 104, 113] : Str) = [([82] : Str)] :: [] by decide]
      exact tryWays_one _ (take_rbx _) rfl
  · simp only [popIns, List.mem_cons, List.not_mem_nil, or_false] at hp
    rcases hp with rfl | rfl
    · refine ⟨?_, by decide⟩
      rw [instruction_1 _ _ ([112, 111, 112, 113] : Str) ([37, 114, 100, 105] : Str) (by decide) (by decide) (by decide), show X.ways ([112, 111, 112, 113] : Str) = [([82] : Str)] :: [] by decide]
      exact tryWays_one _ (take_rdi _) rfl
    · refine ⟨?_, by decide⟩
      rw [instruction_0 _ _ ([115, 121, 115, 111, 117, 116] : Str) (by decide), show X.ways ([115, 121, 115, 111, 117, 116] : Str) = [[]] by decide]
      rfl
  · simp only [retIns, List.mem_singleton] at hp
    subst hp
    refine ⟨?_, by decide⟩
    rw [instruction_0 _ _ ([114, 101, 116] : Str) (by decide), show X.ways ([114, 101, 116] : Str) = [[]] by decide]
    rfl
theorem stack_read (ns : List UInt8) : X.read (stackText ns) = .ok (stackCode ns) := by
  have h := stack_good ns [(([109, 97, 105, 110] : Str), 0)] []
  exact read_main _ (fun p hp => (h p hp).2) (fun p hp => (h p hp).1)
theorem pushes_run (C : Cd) : ∀ (ns : List UInt8) (rest : List Ln) (i k : Nat) (m : Mach) (vals : List Int) (l : Int), C.lines.drop i = (ns.flatMap pushIns).map (·.2) ++ rest → m.kind = 0 → m.at_ = i → StackIs m vals → 8 * (vals.length + ns.length) ≤ m.sN →
    ∃ m', iter C (k + 2 * ns.length) m = iter C k m' ∧ lows C (k + 2 * ns.length) m l = lows C k m' (min l (m'.regs 7)) ∧ m'.kind = 0 ∧ m'.at_ = ((i + 2 * ns.length : Nat) : Int) ∧ StackIs m' ((ns.map fun n => (n.toNat : Int)).reverse ++ vals) ∧ m'.sN = m.sN ∧ m'.out = m.out ∧ m'.regs 0 = m.regs 0 ∧ C.lines.drop (i + 2 * ns.length) = rest
  | [], rest, i, k, m, vals, l, hd, hk, ha, hS, hr => ⟨m, rfl, (lows_first C k m l).symm, hk, ha, hS, rfl, rfl, rfl, hd⟩
  | n :: ns, rest, i, k, m, vals, l, hd, hk, ha, hS, hr => by
    have hn := n.toNat_lt
    rw [List.length_cons] at hr
    rw [List.flatMap_cons, List.map_append, List.append_assoc] at hd
    obtain ⟨l0, hd⟩ := drop_get hd
    obtain ⟨l1, hd⟩ := drop_get hd
    have e0 := st_num C m i hk ha ([109, 111, 118, 113] : Str) n.toNat 1 l0 Mov.movq
    obtain ⟨m1, hm1⟩ : ∃ m1, setReg { m with at_ := (i : Int) + 1 } 1 (n.toNat : Int) = m1 := ⟨_, rfl⟩
    rw [hm1] at e0
    have p1 : m1.kind = 0 ∧ m1.at_ = ((i + 1 : Nat) : Int) ∧ m1.regs 1 = (n.toNat : Int) ∧ m1.regs 7 = m.regs 7 ∧ m1.stack = m.stack ∧ m1.sN = m.sN ∧ m1.out = m.out ∧ m1.regs 0 = m.regs 0 := by rw [← hm1]; exact ⟨hk, rfl, rfl, rfl, rfl, rfl, rfl, rfl⟩
    obtain ⟨k1, a1, r1, s1, t1, n1, o1, z1⟩ := p1
    have e1 := st_push C m1 (i + 1) a1 1 l1
    rw [r1] at e1
    obtain ⟨p, st, hp, e2, S2⟩ := StackIs.push (m := { m1 with at_ := ((i + 1 : Nat) : Int) + 1 }) (hS.same s1 t1 n1) C (n := (n.toNat : Int)) (by unfold I64; omega) (by show _ ≤ m1.sN; rw [n1]; omega)
    rw [e2] at e1
    obtain ⟨m2, hm2⟩ : ∃ m2, ({ setReg { m1 with at_ := ((i + 1 : Nat) : Int) + 1 } 7 p with stack := st } : Mach) = m2 := ⟨_, rfl⟩
    rw [hm2] at S2 e1
    have p2 : m2.kind = 0 ∧ m2.at_ = ((i + 1 + 1 : Nat) : Int) ∧ m2.regs 7 = p ∧ m2.sN = m.sN ∧ m2.out = m.out ∧ m2.regs 0 = m.regs 0 := by rw [← hm2]; exact ⟨k1, rfl, rfl, n1, o1, z1⟩
    obtain ⟨k2, a2, s2, n2, o2, z2⟩ := p2
    obtain ⟨m', f1, f2, f3, f4, f5, f6, f7, f8, f9⟩ := pushes_run C ns rest (i + 1 + 1) k m2 _ (min (min l (m.regs 7)) (m1.regs 7)) hd k2 a2 S2 (by rw [n2, List.length_cons]; omega)
    have s7 := hS.sp
    have s7' := f5.sp
    simp only [List.length_append, List.length_reverse, List.length_map, List.length_cons] at s7'
    refine ⟨m', ?_, ?_, f3, ?_, ?_, f6.trans n2, f7.trans o2, f8.trans z2, ?_⟩
    · rw [List.length_cons, show k + 2 * (ns.length + 1) = k + 2 * ns.length + 1 + 1 by omega, iter_step _ _ _ hk, e0, iter_step _ _ _ k1, e1, f1]
    · rw [List.length_cons, show k + 2 * (ns.length + 1) = k + 2 * ns.length + 1 + 1 by omega, lows_step _ _ _ _ hk, e0, lows_step _ _ _ _ k1, e1, f2]
      congr 1
      rw [s1]
      omega
    · rw [f4, List.length_cons]; congr 1; omega
    · simpa using f5
    · rw [List.length_cons, show i + 2 * (ns.length + 1) = i + 1 + 1 + 2 * ns.length by omega]; exact f9
theorem pops_run (C : Cd) : ∀ (ns : List UInt8) (rest : List Ln) (i k : Nat) (m : Mach) (vals : List Int) (l : Int), C.lines.drop i = (ns.flatMap (fun _ => popIns)).map (·.2) ++ rest → m.kind = 0 → m.at_ = i → StackIs m (ns.map (fun n => (n.toNat : Int)) ++ vals) → l ≤ m.regs 7 →
    ∃ m', iter C (k + 2 * ns.length) m = iter C k m' ∧ lows C (k + 2 * ns.length) m l = lows C k m' l ∧ l ≤ m'.regs 7 ∧ m'.kind = 0 ∧ m'.at_ = ((i + 2 * ns.length : Nat) : Int) ∧ StackIs m' vals ∧ m'.sN = m.sN ∧ m'.out = m.out ++ ns ∧ m'.regs 0 = m.regs 0 ∧ C.lines.drop (i + 2 * ns.length) = rest
  | [], rest, i, k, m, vals, l, hd, hk, ha, hS, hl => ⟨m, rfl, rfl, hl, hk, ha, hS, rfl, by simp, rfl, hd⟩
  | n :: ns, rest, i, k, m, vals, l, hd, hk, ha, hS, hl => by
    have hn := n.toNat_lt
    rw [List.flatMap_cons, List.map_append, List.append_assoc] at hd
    obtain ⟨l0, hd⟩ := drop_get hd
    obtain ⟨l1, hd⟩ := drop_get hd
    rw [List.map_cons, List.cons_append] at hS
    have s7 := hS.sp
    rw [List.length_cons] at s7
    obtain ⟨p, hp0, hp, S1⟩ := StackIs.pop (m := { m with at_ := (i : Int) + 1 }) (hS.same rfl rfl rfl) C
    have e0 := st_pop C m i ha 5 _ _ l0 hp hk
    obtain ⟨m1, hm1⟩ : ∃ m1, setReg (setReg { m with at_ := (i : Int) + 1 } 7 p) 5 (n.toNat : Int) = m1 := ⟨_, rfl⟩
    rw [hm1] at e0
    have p1 : m1.kind = 0 ∧ m1.at_ = ((i + 1 : Nat) : Int) ∧ m1.regs 5 = (n.toNat : Int) ∧ m1.regs 7 = p ∧ m1.stack = m.stack ∧ m1.sN = m.sN ∧ m1.out = m.out ∧ m1.regs 0 = m.regs 0 := by rw [← hm1]; exact ⟨hk, rfl, rfl, rfl, rfl, rfl, rfl, rfl⟩
    obtain ⟨k1, a1, r1, s1, t1, n1, o1, z1⟩ := p1
    have S1 : StackIs m1 (ns.map (fun n => (n.toNat : Int)) ++ vals) := S1.same s1 t1 n1
    have e1 := st_out C m1 (i + 1) a1 l1
    have hb : X.byteOf (n.toNat : Int) 0 = n := by
      unfold X.byteOf
      rw [show ((n.toNat : Int) % 18446744073709551616).toNat / 2 ^ (8 * 0) % 256 = n.toNat by simp; omega]
      simp
    rw [r1, hb, o1] at e1
    obtain ⟨m2, hm2⟩ : ∃ m2, ({ m1 with at_ := ((i + 1 : Nat) : Int) + 1, out := m.out ++ [n] } : Mach) = m2 := ⟨_, rfl⟩
    rw [hm2] at e1
    have p2 : m2.kind = 0 ∧ m2.at_ = ((i + 1 + 1 : Nat) : Int) ∧ m2.regs 7 = m1.regs 7 ∧ m2.stack = m1.stack ∧ m2.sN = m.sN ∧ m2.out = m.out ++ [n] ∧ m2.regs 0 = m.regs 0 := by rw [← hm2]; exact ⟨k1, rfl, rfl, rfl, n1, rfl, z1⟩
    obtain ⟨k2, a2, s2, t2, n2, o2, z2⟩ := p2
    have hl2 : l ≤ m2.regs 7 := by rw [s2, s1]; omega
    obtain ⟨m', f1, f2, f3, f4, f5, f6, f7, f8, f9, f10⟩ := pops_run C ns rest (i + 1 + 1) k m2 vals l hd k2 a2 (S1.same s2 t2 (n2.trans n1.symm)) hl2
    refine ⟨m', ?_, ?_, f3, f4, ?_, f6, f7.trans n2, ?_, f9.trans z2, ?_⟩
    · rw [List.length_cons, show k + 2 * (ns.length + 1) = k + 2 * ns.length + 1 + 1 by omega, iter_step _ _ _ hk, e0, iter_step _ _ _ k1, e1, f1]
    · rw [List.length_cons, show k + 2 * (ns.length + 1) = k + 2 * ns.length + 1 + 1 by omega, lows_step _ _ _ _ hk, e0, lows_step _ _ _ _ k1, e1, ← f2]
      congr 1
      rw [s1]
      omega
    · rw [f5, List.length_cons]; congr 1; omega
    · rw [f8, o2]; simp
    · rw [List.length_cons, show i + 2 * (ns.length + 1) = i + 1 + 1 + 2 * ns.length by omega]; exact f10
end Go.Proofs.YtfkfdffhajokkaaGreatDoor.Pl
/- What the two programs of 'awake' read as, and what the first comes to; in plain Lean; conditions: none. -/
namespace Go.Proofs.YtfkfdffhajokkaaGreatDoor.Pl
open Go.RowKit X
set_option linter.unusedSimpArgs false
theorem itoa_300 : Lib.itoa 300 = ([51, 48, 48] : Str) := by
  unfold Lib.itoa
  rw [if_neg (by decide), show (300 : Int).toNat = 300 from rfl]
  rw [Lib.decDigits, dif_neg (by decide), Lib.decDigits, dif_neg (by decide), Lib.decDigits, dif_pos (by decide)]
  rfl
def awakeIns : List (Str × Ln) := [(insText ([109, 111, 118, 113] : Str) [36 :: Lib.itoa 300, ([37, 114, 97, 120] : Str)], ⟨([109, 111, 118, 113] : Str), [numOpd 300, regOpd 0 8]⟩), (insText ([114, 101, 116] : Str) [], ⟨([114, 101, 116] : Str), []⟩)]
def awakeText : Str := ([109, 97, 105, 110, 58, 10, 9, 109, 111, 118, 113, 9, 36, 51, 48, 48, 44, 32, 37, 114, 97, 120, 10, 9, 114, 101, 116, 10] : Str)
def awakeCode : Cd := ⟨awakeText, awakeIns.map (·.2), [(([109, 97, 105, 110] : Str), 0)], [], [], []⟩
theorem awake_text : joinLines (([109, 97, 105, 110, 58] : Str) :: tabs awakeIns) = awakeText := by
  unfold awakeIns
  rw [itoa_300]
  rfl
theorem awake_read : X.read awakeText = .ok awakeCode := by
  have h : ∀ p ∈ awakeIns, Good [(([109, 97, 105, 110] : Str), 0)] [] p := by
    intro p hp
    simp only [awakeIns, List.mem_cons, List.not_mem_nil, or_false] at hp
    rcases hp with rfl | rfl
    · exact good_num ([109, 111, 118, 113] : Str) 300 ([37, 114, 97, 120] : Str) ([73, 82, 77] : Str) ([82] : Str) _ [[([73, 82] : Str), ([77] : Str)]] (by decide) (by decide) (by decide) (by decide) (by decide) (by decide) (take_I _ _ (by decide) (by decide)) (take_rax _) rfl
    · refine ⟨?_, by decide⟩
      rw [instruction_0 _ _ ([114, 101, 116] : Str) (by decide), show X.ways ([114, 101, 116] : Str) = [[]] by decide]
      rfl
  have e := read_main awakeIns (fun p hp => (h p hp).2) (fun p hp => (h p hp).1)
  rw [awake_text] at e
  exact e
def wrongText : Str := ([109, 97, 105, 110, 58, 10, 9, 109, 111, 118, 113, 9, 51, 48, 48, 44, 32, 37, 114, 97, 120, 10] : Str)
theorem wrong_read : X.read wrongText = .error (12, 6) := by rfl
theorem awake_run (sN : Nat) (h0 : 16 ≤ sN) (h1 : sN ≤ 1048576) : ∃ m, X.run awakeCode [] 10 sN = m ∧ m.kind = 1 ∧ m.code = 44 ∧ m.out = [] ∧ m.least = 16777208 := by
  obtain ⟨C, hC⟩ : ∃ C, awakeCode = C := ⟨_, rfl⟩
  have l0 : C.lines[0]? = some ⟨([109, 111, 118, 113] : Str), [numOpd 300, regOpd 0 8]⟩ := by rw [← hC]; rfl
  have l1 : C.lines[1]? = some ⟨([114, 101, 116] : Str), []⟩ := by rw [← hC]; rfl
  have hmain : C.labels.lookup ([109, 97, 105, 110] : Str) = some 0 := by rw [← hC]; rfl
  rw [hC]
  unfold X.run
  rw [runN_eq, begin_eq C [] sN 0 hmain h0 h1]
  have S0 := StackIs.start C [] sN 0 h0 h1
  have e1 := st_num C (start C [] sN 0) 0 rfl rfl ([109, 111, 118, 113] : Str) 300 0 l0 Mov.movq
  obtain ⟨m1, hm1⟩ : ∃ m, setReg { start C [] sN 0 with at_ := ((0 : Nat) : Int) + 1 } 0 300 = m := ⟨_, rfl⟩
  rw [hm1] at e1
  have q1 : m1.kind = 0 ∧ m1.at_ = ((1 : Nat) : Int) ∧ m1.regs 0 = 300 ∧ m1.regs 7 = 16777208 ∧ m1.stack = (start C [] sN 0).stack ∧ m1.sN = sN ∧ m1.out = [] := by rw [← hm1]; exact ⟨rfl, rfl, rfl, rfl, rfl, rfl, rfl⟩
  obtain ⟨k1, a1, r0, r7, s1, n1, o1⟩ := q1
  have S1 : StackIs m1 [0] := S0.same r7 s1 n1
  obtain ⟨p, hp, e2, S2⟩ := StackIs.pop (m := { m1 with at_ := ((1 : Nat) : Int) + 1 }) (S1.same rfl rfl rfl) C
  have e3 := st_ret0 C m1 1 a1 _ l1 e2 k1
  obtain ⟨m2, hm2⟩ : ∃ m, ({ setReg { m1 with at_ := ((1 : Nat) : Int) + 1 } 7 p with kind := 1, code := Go.bits .and .i64 ((setReg { m1 with at_ := ((1 : Nat) : Int) + 1 } 7 p).regs 0) 255 } : Mach) = m := ⟨_, rfl⟩
  rw [hm2] at e3
  have q2 : m2.kind = 1 ∧ m2.code = Go.bits .and .i64 (m1.regs 0) 255 ∧ m2.regs 7 = p ∧ m2.out = m1.out := by rw [← hm2]; exact ⟨rfl, rfl, rfl, rfl⟩
  obtain ⟨k2, c2, r72, o2⟩ := q2
  have hk2 : m2.kind ≠ 0 := by rw [k2]; decide
  have F : iter C 10 (start C [] sN 0) = m2 := by
    rw [show (10 : Nat) = 8 + 1 + 1 from rfl, iter_step _ _ _ rfl, e1, iter_step _ _ _ k1, e3, iter_over _ _ _ hk2]
  have G : lows C 10 (start C [] sN 0) (start C [] sN 0).least = 16777208 := by
    rw [show (10 : Nat) = 8 + 1 + 1 from rfl, lows_step _ _ _ _ rfl, e1, lows_step _ _ _ _ k1, e3, lows_over _ _ _ _ hk2, r72, r7]
    have e7 : (start C [] sN 0).regs 7 = 16777208 := rfl
    have el : (start C [] sN 0).least = 9223372036854775807 := rfl
    rw [e7, el]
    simp only [List.length_nil] at hp
    omega
  rw [F, G]
  refine ⟨_, rfl, ?_, ?_, ?_, ?_⟩
  · show (fin m2).kind = 1; unfold fin; rw [if_pos hk2]; exact k2
  · show (fin m2).code = 44; unfold fin; rw [if_pos hk2, c2, r0]; rfl
  · show (fin m2).out = []; unfold fin; rw [if_pos hk2, o2, o1]
  · rfl
end Go.Proofs.YtfkfdffhajokkaaGreatDoor.Pl
/- What the program of the statement X86Stack comes to when package x86's machine runs it; in plain Lean; conditions: up to 20 bytes, a stack of at least two words. -/
namespace Go.Proofs.YtfkfdffhajokkaaGreatDoor.Pl
open Go.RowKit X
set_option linter.unusedSimpArgs false
theorem flatMap_const {α β : Type} (l : List β) : ∀ (a b : List α), a.length = b.length → a.flatMap (fun _ => l) = b.flatMap (fun _ => l)
  | [], [], _ => rfl
  | x :: a, y :: b, h => by
    rw [List.flatMap_cons, List.flatMap_cons, flatMap_const l a b (by simpa using h)]
  | [], y :: b, h => by simp at h
  | x :: a, [], h => by simp at h
theorem stack_fine (ns : List UInt8) (sN : Nat) (hn : ns.length ≤ 20) (hr : 8 * (1 + ns.length) ≤ sN) (h0 : 16 ≤ sN) (h1 : sN ≤ 1048576) :
    ∃ m, X.run (stackCode ns) [] 1000 sN = m ∧ m.kind = 1 ∧ m.code = 0 ∧ m.out = ns.reverse ∧ m.least = 16777208 - 8 * (ns.length : Int) := by
  obtain ⟨C, hC⟩ : ∃ C, stackCode ns = C := ⟨_, rfl⟩
  have hl : C.lines = (ns.flatMap pushIns).map (·.2) ++ ((ns.reverse.flatMap (fun _ => popIns)).map (·.2) ++ retIns.map (·.2)) := by
    rw [← hC]
    show (stackIns ns).map (·.2) = _
    unfold stackIns
    rw [List.map_append, List.map_append, flatMap_const popIns ns ns.reverse (by simp)]
  have hmain : C.labels.lookup ([109, 97, 105, 110] : Str) = some 0 := by rw [← hC]; rfl
  rw [hC]
  unfold X.run
  rw [runN_eq, begin_eq C [] sN 0 hmain h0 h1]
  have S0 := StackIs.start C [] sN 0 h0 h1
  obtain ⟨m1, f1, g1, k1, a1, S1, n1, o1, z1, d1⟩ := pushes_run C ns _ 0 (1000 - 2 * ns.length) (start C [] sN 0) [0] 9223372036854775807 (by rw [List.drop_zero]; exact hl) rfl rfl S0 (by show _ ≤ sN; simp only [List.length_singleton]; omega)
  rw [Nat.zero_add] at a1 d1
  have s7 := S1.sp
  simp only [List.length_append, List.length_reverse, List.length_map, List.length_singleton] at s7
  have S1' : StackIs m1 (ns.reverse.map (fun n => (n.toNat : Int)) ++ [0]) := by rw [List.map_reverse]; exact S1
  obtain ⟨m2, f2, g2, w2, k2, a2, S2, n2, o2, z2, d2⟩ := pops_run C ns.reverse _ (2 * ns.length) (1000 - 4 * ns.length) m1 [0] (min 9223372036854775807 (m1.regs 7)) d1 k1 a1 S1' (by omega)
  rw [List.length_reverse] at f2 g2 a2 d2
  have d3 : C.lines.drop (2 * ns.length + 2 * ns.length) = ⟨([114, 101, 116] : Str), []⟩ :: [] := d2
  obtain ⟨l0, -⟩ := drop_get d3
  obtain ⟨p, hp, e2, S3⟩ := StackIs.pop (m := { m2 with at_ := ((2 * ns.length + 2 * ns.length : Nat) : Int) + 1 }) (S2.same rfl rfl rfl) C
  have e3 := st_ret0 C m2 (2 * ns.length + 2 * ns.length) a2 _ l0 e2 k2
  obtain ⟨m3, hm3⟩ : ∃ m, ({ setReg { m2 with at_ := ((2 * ns.length + 2 * ns.length : Nat) : Int) + 1 } 7 p with kind := 1, code := Go.bits .and .i64 ((setReg { m2 with at_ := ((2 * ns.length + 2 * ns.length : Nat) : Int) + 1 } 7 p).regs 0) 255 } : Mach) = m := ⟨_, rfl⟩
  rw [hm3] at e3
  have q3 : m3.kind = 1 ∧ m3.code = Go.bits .and .i64 (m2.regs 0) 255 ∧ m3.regs 7 = p ∧ m3.out = m2.out := by rw [← hm3]; exact ⟨rfl, rfl, rfl, rfl⟩
  obtain ⟨k3, c3, r73, o3⟩ := q3
  have hk3 : m3.kind ≠ 0 := by rw [k3]; decide
  have t1 : 1000 - 2 * ns.length + 2 * ns.length = 1000 := by omega
  have t2 : 1000 - 4 * ns.length + 2 * ns.length = 1000 - 2 * ns.length := by omega
  have t3 : 1000 - 4 * ns.length = (1000 - 4 * ns.length - 1) + 1 := by omega
  have F : iter C 1000 (start C [] sN 0) = m3 := by
    rw [t1] at f1
    rw [t2] at f2
    rw [f1, f2, t3, iter_step _ _ _ k2, e3, iter_over _ _ _ hk3]
  have G : lows C 1000 (start C [] sN 0) (start C [] sN 0).least = 16777208 - 8 * (ns.length : Int) := by
    have el : (start C [] sN 0).least = 9223372036854775807 := rfl
    rw [t1] at g1
    rw [t2] at g2
    rw [el, g1, g2, t3, lows_step _ _ _ _ k2, e3, lows_over _ _ _ _ hk3, r73]
    have s72 := S2.sp
    simp only [List.length_singleton] at s72
    simp only [List.length_nil] at hp
    omega
  rw [F, G]
  refine ⟨_, rfl, ?_, ?_, ?_, ?_⟩
  · show (fin m3).kind = 1; unfold fin; rw [if_pos hk3]; exact k3
  · show (fin m3).code = 0; unfold fin; rw [if_pos hk3, c3, z2, z1, show (start C [] sN 0).regs 0 = 0 from rfl]; rfl
  · show (fin m3).out = ns.reverse; unfold fin; rw [if_pos hk3, o3, o2, o1]; rfl
  · rfl
theorem stack_over (ns : List UInt8) (words : Nat) (hn : ns.length ≤ 20) (hr : words < ns.length + 1) (h0 : 2 ≤ words) :
    ∃ m, X.run (stackCode ns) [] 1000 (8 * words) = m ∧ m.kind = 5 ∧ m.out = [] := by
  obtain ⟨a, n, b, rfl, ha⟩ : ∃ a n b, ns = a ++ n :: b ∧ a.length + 1 = words := by
    refine ⟨ns.take (words - 1), ns.getD (words - 1) 0, ns.drop words, ?_, by rw [List.length_take]; omega⟩
    have : words - 1 < ns.length := by omega
    rw [List.getD_eq_getElem?_getD, List.getElem?_eq_getElem this, Option.getD_some]
    have e := List.drop_eq_getElem_cons this
    rw [show words - 1 + 1 = words by omega] at e
    rw [← e, List.take_append_drop]
  rw [List.length_append, List.length_cons] at hn
  obtain ⟨C, hC⟩ : ∃ C, stackCode (a ++ n :: b) = C := ⟨_, rfl⟩
  obtain ⟨rest, hl⟩ : ∃ rest, C.lines = (a.flatMap pushIns).map (·.2) ++ (⟨([109, 111, 118, 113] : Str), [numOpd (n.toNat : Int), regOpd 1 8]⟩ :: ⟨([112, 117, 115, 104, 113] : Str), [regOpd 1 8]⟩ :: rest) := by
    rw [← hC]
    refine ⟨(b.flatMap pushIns).map (·.2) ++ (((a ++ n :: b).flatMap (fun _ => popIns)).map (·.2) ++ retIns.map (·.2)), ?_⟩
    show (stackIns (a ++ n :: b)).map (·.2) = _
    unfold stackIns
    rw [List.map_append, List.map_append, List.flatMap_append, List.flatMap_cons, List.map_append, List.map_append, List.append_assoc, List.append_assoc]
    rfl
  have hmain : C.labels.lookup ([109, 97, 105, 110] : Str) = some 0 := by rw [← hC]; rfl
  have hsp : C.spans = [] := by rw [← hC]; rfl
  rw [hC]
  unfold X.run
  rw [runN_eq, begin_eq C [] (8 * words) 0 hmain (by omega) (by omega)]
  have S0 := StackIs.start C [] (8 * words) 0 (by omega) (by omega)
  obtain ⟨m1, f1, g1, k1, a1, S1, n1, o1, z1, d1⟩ := pushes_run C a _ 0 (1000 - 2 * a.length) (start C [] (8 * words) 0) [0] 9223372036854775807 (by rw [List.drop_zero]; exact hl) rfl rfl S0 (by show _ ≤ 8 * words; simp only [List.length_singleton]; omega)
  rw [Nat.zero_add] at a1 d1
  obtain ⟨l0, d1⟩ := drop_get d1
  obtain ⟨l1, -⟩ := drop_get d1
  have s7 := S1.sp
  simp only [List.length_append, List.length_reverse, List.length_map, List.length_singleton] at s7
  have n1' : m1.sN = 8 * words := n1
  have e1 := st_num C m1 (2 * a.length) k1 a1 ([109, 111, 118, 113] : Str) n.toNat 1 l0 Mov.movq
  obtain ⟨m2, hm2⟩ : ∃ m, setReg { m1 with at_ := ((2 * a.length : Nat) : Int) + 1 } 1 (n.toNat : Int) = m := ⟨_, rfl⟩
  rw [hm2] at e1
  have q2 : m2.kind = 0 ∧ m2.at_ = ((2 * a.length + 1 : Nat) : Int) ∧ m2.regs 7 = m1.regs 7 ∧ m2.sN = m1.sN ∧ m2.out = m1.out := by rw [← hm2]; exact ⟨k1, rfl, rfl, rfl, rfl⟩
  obtain ⟨k2, a2, r2, n2, o2⟩ := q2
  have e2 := st_push C m2 (2 * a.length + 1) a2 1 l1
  rw [push_none C { m2 with at_ := ((2 * a.length + 1 : Nat) : Int) + 1 } _ (by show m2.regs 7 - 8 < 16777216 - (m2.sN : Int); rw [r2, n2, n1']; omega) (by show 0 ≤ m2.regs 7 ∧ m2.regs 7 ≤ 16777216; rw [r2]; omega) hsp] at e2
  obtain ⟨m3, hm3⟩ : ∃ m, halt (setReg { m2 with at_ := ((2 * a.length + 1 : Nat) : Int) + 1 } 7 (({ m2 with at_ := ((2 * a.length + 1 : Nat) : Int) + 1 } : Mach).regs 7 - 8)) 5 0 = m := ⟨_, rfl⟩
  rw [hm3] at e2
  have q3 : m3.kind = 5 ∧ m3.out = m2.out := by
    rw [← hm3]
    unfold halt
    rw [if_neg (by show ¬ (m2.kind ≠ 0); simp [k2])]
    exact ⟨rfl, rfl⟩
  obtain ⟨k3, o3⟩ := q3
  have hk3 : m3.kind ≠ 0 := by rw [k3]; decide
  have t1 : 1000 - 2 * a.length + 2 * a.length = 1000 := by omega
  have t3 : 1000 - 2 * a.length = (1000 - 2 * a.length - 2) + 1 + 1 := by omega
  have F : iter C 1000 (start C [] (8 * words) 0) = m3 := by
    rw [t1] at f1
    rw [f1, t3, iter_step _ _ _ k1, e1, iter_step _ _ _ k2, e2, iter_over _ _ _ hk3]
  rw [F]
  refine ⟨_, rfl, ?_, ?_⟩
  · show (fin m3).kind = 5; unfold fin; rw [if_pos hk3]; exact k3
  · show (fin m3).out = []; unfold fin; rw [if_pos hk3, o3, o2, o1]; rfl
end Go.Proofs.YtfkfdffhajokkaaGreatDoor.Pl
