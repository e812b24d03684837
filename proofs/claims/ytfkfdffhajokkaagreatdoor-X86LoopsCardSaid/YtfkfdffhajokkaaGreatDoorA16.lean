/- Carrying over what lies in memory past a call that turns some few named blocks; conditions: none. -/
import Derived.Test.YtfkfdffhajokkaaGreatDoorA13
import Derived.Test.YtfkfdffhajokkaaGreatDoorA14
namespace Go.Proofs.YtfkfdffhajokkaaGreatDoor
open Go.RowKit X
/-- Of what was there, only the blocks of the list may have turned. -/
structure Kp (S : List Nat) (w w' : World) : Prop where
  os : w'.os = w.os
  tape : w'.tape = w.tape
  output : w'.output = w.output
  size : w.heap.size ≤ w'.heap.size
  block : ∀ k, k < w.heap.size → k ∉ S → w'.heap[k]? = w.heap[k]?
theorem Kp.refl (S : List Nat) (w : World) : Kp S w w := ⟨rfl, rfl, rfl, Nat.le_refl _, fun _ _ _ => rfl⟩
theorem Kp.of_below {S : List Nat} {w w' : World} (h : Below w.heap.size w w') : Kp S w w' := ⟨h.os, h.tape, h.output, h.size, fun k hk _ => h.block k hk⟩
theorem Kp.of_but {d : Nat} {S : List Nat} {w w' : World} (h : But d w w') (hd : d ∈ S) : Kp S w w' := ⟨h.os, h.tape, h.output, h.size, fun k hk hn => h.block k hk (fun e => hn (e ▸ hd))⟩
theorem Kp.trans {S : List Nat} {w a b : World} (h : Kp S w a) (h2 : Kp S a b) : Kp S w b :=
  ⟨h2.os.trans h.os, h2.tape.trans h.tape, h2.output.trans h.output, Nat.le_trans h.size h2.size, fun k hk hn => (h2.block k (Nat.lt_of_lt_of_le hk h.size) hn).trans (h.block k hk hn)⟩
theorem Kp.mono {S T : List Nat} {w a : World} (h : Kp S w a) (hs : ∀ k, k ∈ S → k ∈ T) : Kp T w a := ⟨h.os, h.tape, h.output, h.size, fun k hk hn => h.block k hk (fun e => hn (hs k e))⟩
theorem Kp.below {S : List Nat} {w a b : World} (h : Kp S w a) (hb : Below a.heap.size a b) : Kp S w b := h.trans (Kp.of_below hb)
theorem Kp.drew {S : List Nat} {w a : World} (h : Kp S w a) : Kp S w a.drew := ⟨h.os, h.tape, h.output, h.size, h.block⟩
theorem Kp.drewN {S : List Nat} {w a : World} (h : Kp S w a) (n : Nat) : Kp S w (a.drewN n) := ⟨h.os, h.tape, h.output, h.size, h.block⟩
theorem Kp.alloc {S : List Nat} {w a : World} (h : Kp S w a) (o : Obj) : Kp S w (a.alloc o) := h.below (balloc (Below.refl _ _) o)
theorem Kp.setCell {S : List Nat} {w a : World} (h : Kp S w a) {p : Addr} (v : Value) (hp : p.block ∈ S ∨ w.heap.size ≤ p.block) : Kp S w (a.setCell p v) :=
  ⟨h.os, h.tape, h.output, by rw [size_setCell]; exact h.size, fun k hk hn => (Below.heap_setCell _ _ _ _ (by
    rintro rfl
    rcases hp with hp | hp
    · exact hn hp
    · omega)).trans (h.block k hk hn)⟩
theorem Kp.mapped {S : List Nat} {w a b : World} {r : Nat} (h : Kp S w a) (m : Mapped a b r) (hr : r ∈ S ∨ w.heap.size ≤ r) : Kp S w b :=
  ⟨m.os.trans h.os, m.tape.trans h.tape, m.output.trans h.output, by rw [m.size]; exact h.size, fun k hk hn => (m.block k (by
    rintro rfl
    rcases hr with hr | hr
    · exact hn hr
    · omega)).trans (h.block k hk hn)⟩
theorem Kp.grown {S : List Nat} {w a b : World} {row : Option Nat} (h : Kp S w a) (g : a.grownBy b row) (hr : ∀ k, row = some k → k ∈ S ∨ w.heap.size ≤ k) : Kp S w b :=
  ⟨g.os.trans h.os, g.tape.trans h.tape, g.output.trans h.output, Nat.le_trans h.size g.size, fun k hk hn => (g.block k (Nat.lt_of_lt_of_le hk h.size) (by
    intro e
    rcases hr k e.symm with hr | hr
    · exact hn hr
    · omega)).trans (h.block k hk hn)⟩
theorem Kp.cell {S : List Nat} {w a : World} (h : Kp S w a) {p : Addr} {v : Value} (hc : w.cell? p = some v) (hp : p.block ∉ S) : a.cell? p = some v := by
  rw [← hc]; exact World.cell?_of_block (h.block p.block (World.block_lt_of_cell? w p hc) hp)
theorem Bx.kp {S : List Nat} {w a : World} {b : Nat} {c : Array Value} {T : TypeId} (h : Bx w b c T) (hk : Kp S w a) (hb : b ∉ S) : Bx a b c T := h.of_block (hk.block b h.lt hb)
theorem MapAt.kp {S : List Nat} {w a : World} {r : Nat} {l : List (Value × Value)} (h : MapAt w r l) (hk : Kp S w a) (hb : r ∉ S) : MapAt a r l := h.of_block (hk.block r h.lt hb)
theorem Below.kp {S : List Nat} {B : Nat} {w a b : World} (h : Below B w a) (hk : Kp S a b) (hs : ∀ k, k ∈ S → B ≤ k) (hB : B ≤ a.heap.size) : Below B w b :=
  ⟨hk.os.trans h.os, hk.tape.trans h.tape, hk.output.trans h.output, Nat.le_trans h.size hk.size, fun k hk' => (hk.block k (by omega) (fun e => by have := hs k e; omega)).trans (h.block k hk')⟩
theorem Env.kp {S : List Nat} {w a : World} (h : Env w) (hk : Kp S w a) (hs : ∀ k, k ∈ S → 9 ≤ k) : Env a := h.mono (Below.kp (Below.refl 9 w) hk hs h.size) (Nat.le_refl 9)
theorem StrsAt.kp {S : List Nat} {w a : World} {ad : Option Addr} {n cap : Nat} {l : List Str} (h : StrsAt w (.slice ad n cap) l) (hk : Kp S w a) (hb : ∀ p, ad = some p → p.block ∉ S) : StrsAt a (.slice ad n cap) l := by
  obtain ⟨ad', cap', e, h⟩ := h
  cases e
  refine ⟨_, _, rfl, fun h0 => ?_⟩
  obtain ⟨b, o, rfl, h2⟩ := h h0
  exact ⟨b, o, rfl, fun i hi => hk.cell (h2 i hi) (by simpa using hb ⟨b, o, none⟩ rfl)⟩
theorem ownsRow_kp {S : List Nat} {w a : World} {base : Nat} {e : TypeId} {size : Nat} {v : Value} {n : Nat} {xs : List Value} (h : w.ownsRow base e size v n xs) (hk : Kp S w a) (hb : ∀ k, v.ownBlock = some k → k ∉ S) : a.ownsRow base e size v n xs :=
  ownsRow_of_block h fun k hk' => hk.block k (h.lt k hk').2 (hb k hk')
/-- A block of cells is none that holds a map. -/
theorem Bx.ne_map {w : World} {b r : Nat} {c : Array Value} {T : TypeId} {l : List (Value × Value)} (h : Bx w b c T) (m : MapAt w r l) : b ≠ r := by
  rintro rfl
  obtain ⟨es, clk, h1, _⟩ := m
  unfold Bx at h
  rw [h] at h1
  cases h1
theorem parseUintM_10 : ∀ (l : Str) (acc u : Nat), Lib.parseUintM (2 ^ 32 - 1) acc l = .ok u → Lib.parseUint10 acc l = .ok u
  | [], acc, u, h => h
  | c :: r, acc, u, h => by
    unfold Lib.parseUintM at h
    unfold Lib.parseUint10
    split at h
    · rename_i hd
      rw [if_pos hd]
      split at h
      · cases h
      · rename_i h2
        rw [if_neg h2]
        split at h
        · cases h
        · rename_i h3
          rw [if_neg (by omega)]
          exact parseUintM_10 r _ u h
    · cases h
theorem atoi_of_32 {l : Str} {v : Int} (h : Lib.parseIntB 32 l = .ok v) : Lib.atoiAll l = .ok v := by
  cases l with
  | nil => cases h
  | cons c r =>
    have key : ∀ t : Str, ∀ u, Lib.parseUintB 32 t = .ok u → Lib.parseMag t = .ok u := by
      intro t u h
      unfold Lib.parseUintB at h
      unfold Lib.parseMag
      split at h
      · cases h
      · rename_i h2
        rw [if_neg h2]
        exact parseUintM_10 t 0 u h
    unfold Lib.parseIntB at h
    unfold Lib.atoiAll
    simp only at h ⊢
    cases hu : Lib.parseUintB 32 (if c.toNat = 43 ∨ c.toNat = 45 then r else c :: r) with
    | range => rw [hu] at h; cases h
    | ok u =>
      rw [hu] at h
      rw [key _ u hu]
      simp only at h ⊢
      split at h
      · cases h
      · rename_i h1
        rw [if_neg (by omega)]
        split at h
        · cases h
        · rename_i h2
          rw [if_neg (by omega)]
          exact h
    | _ => rw [hu] at h; cases h
theorem number_32_ok {l : Str} (h : (number l 32).2 = true) : Lib.atoiAll l = .ok (number l 32).1 := by
  unfold number at h ⊢
  cases hp : Lib.parseIntB 32 l with
  | ok v => exact atoi_of_32 hp
  | range => rw [hp] at h; cases h
  | _ => rw [hp] at h; cases h
end Go.Proofs.YtfkfdffhajokkaaGreatDoor
/- What gathering the names of lines keeps to, in plain Lean; conditions: none. -/
namespace Go.Proofs.YtfkfdffhajokkaaGreatDoor
open Go.RowKit X
/-- What holds of what is gathered from i lines. -/
structure GOk (g : Gt) (i : Nat) : Prop where
  k0 : 0 ≤ g.k
  k1 : g.k ≤ i
  a0 : 65536 ≤ g.at_
  a1 : g.at_ ≤ 65536 + 65552 * (i : Int)
  t0 : -1 ≤ g.twice
  t1 : g.twice < i
  lab : ∀ n v, g.labels.lookup n = some v → 0 ≤ v ∧ v ≤ i
  var : ∀ n v, g.vars.lookup n = some v → 1 ≤ v.1 ∧ v.1 ≤ 65536 ∧ 65536 ≤ v.2 ∧ v.2 + v.1 ≤ g.at_
  spans : g.spans.length ≤ i
  span : ∀ v ∈ g.spans, 1 ≤ v.1 ∧ v.1 ≤ 65536 ∧ 65536 ≤ v.2 ∧ v.2 + v.1 ≤ g.at_
theorem GOk.start : GOk gather0 0 := ⟨by decide, by decide, by decide, by decide, by decide, by decide, fun n v h => by simp [gather0] at h, fun n v h => by simp [gather0] at h, by decide, fun v h => by simp [gather0] at h⟩
theorem GOk.wait {g : Gt} {i : Nat} (h : GOk g i) : GOk g (i + 1) := by
  obtain ⟨h1, h2, h3, h4, h5, h6, h7, h8, h9, h10⟩ := h
  exact ⟨h1, by omega, h3, by omega, h5, by omega, fun n v e => by have := h7 n v e; omega, h8, by omega, h10⟩
theorem lookup_snoc {α : Type} (l : List (Str × α)) (n m : Str) (v : α) : (l ++ [(n, v)]).lookup m = (l.lookup m).or (if m = n then some v else none) := by
  induction l with
  | nil =>
    simp only [List.nil_append, List.lookup_cons, List.lookup_nil, Option.none_or]
    by_cases h : m = n
    · subst h; simp
    · have : (m == n) = false := by rw [Bool.eq_false_iff, ne_eq, beq_iff_eq]; exact h
      rw [this, if_neg h]
  | cons p l ih =>
    obtain ⟨a, b⟩ := p
    rw [List.cons_append, List.lookup_cons, List.lookup_cons]
    split
    · simp
    · exact ih
theorem GOk.name {g : Gt} {i : Nat} (h : GOk g i) (name : Str) (size : Int) (hs : size < 0 ∨ 1 ≤ size ∧ size ≤ 65536) : GOk (gatherName g i name size) (i + 1) := by
  unfold gatherName
  split
  · split
    · obtain ⟨h1, h2, h3, h4, h5, h6, h7, h8, h9, h10⟩ := h
      exact ⟨h1, by simp only; omega, h3, by simp only; omega, by simp only; omega, by simp only; omega, fun n v e => by have := h7 n v e; omega, h8, by simp only; omega, h10⟩
    · exact h.wait
  · rename_i hn
    split
    · obtain ⟨h1, h2, h3, h4, h5, h6, h7, h8, h9, h10⟩ := h
      refine ⟨h1, by simp only; omega, h3, by simp only; omega, h5, by simp only; omega, fun n v e => ?_, h8, by simp only; omega, h10⟩
      simp only [lookup_snoc] at e
      cases he : g.labels.lookup n with
      | some u =>
        rw [he] at e
        obtain rfl : u = v := by simpa using e
        have := h7 n u he; omega
      | none =>
        rw [he] at e
        simp only [Option.none_or] at e
        split at e
        · cases e; omega
        · cases e
    · rename_i hz
      obtain ⟨hz1, hz2⟩ : 1 ≤ size ∧ size ≤ 65536 := by omega
      obtain ⟨h1, h2, h3, h4, h5, h6, h7, h8, h9, h10⟩ := h
      refine ⟨h1, by simp only; omega, by simp only; omega, by simp only; omega, h5, by simp only; omega, fun n v e => by have := h7 n v e; omega, fun n v e => ?_, by simp only [List.length_append, List.length_singleton]; omega, fun v hv => ?_⟩
      · simp only [lookup_snoc] at e
        simp only
        cases he : g.vars.lookup n with
        | some u =>
          rw [he] at e
          obtain rfl : u = v := by simpa using e
          have := h8 n u he; omega
        | none =>
          rw [he] at e
          simp only [Option.none_or] at e
          split at e
          · cases e; simp only; omega
          · cases e
      · simp only [List.mem_append, List.mem_singleton] at hv
        simp only
        rcases hv with hv | rfl
        · have := h10 v hv; omega
        · simp only; omega
theorem splitOn_head (c : UInt8) : ∀ (p r : Str), (∀ b ∈ p, b ≠ c) → (splitOn c (p ++ c :: r)).headD [] = p
  | [], r, _ => by simp [splitOn]
  | b :: p, r, h => by
    have ih := splitOn_head c p r (fun x hx => h x (by simp [hx]))
    have hb : ¬ b = c := h b (by simp)
    rw [List.cons_append]
    unfold splitOn
    rw [if_neg hb]
    cases hs : splitOn c (p ++ c :: r) with
    | nil => exact absurd hs (splitOn_ne c _)
    | cons x xs => rw [hs] at ih; simp only [List.headD_cons] at ih ⊢; rw [ih]
theorem hasPrefix_append {s p : Str} (h : Lib.hasPrefix s p = true) : ∃ r, s = p ++ r := by
  have := List.isPrefixOf_iff_prefix.1 h
  obtain ⟨r, hr⟩ := this
  exact ⟨r, hr.symm⟩
theorem dot_data {s : Str} (h : Lib.hasPrefix s ([46, 100, 97, 116, 97, 32] : Str) = true) : (splitOn 32 s).headD [] = ([46, 100, 97, 116, 97] : Str) := by
  obtain ⟨r, rfl⟩ := hasPrefix_append h
  exact splitOn_head 32 ([46, 100, 97, 116, 97] : Str) r (by decide)
/-- A line of data that tells a size. -/
theorem datum_sized {labels : List (Str × Int)} {vars : List (Str × (Int × Int))} {s : Str} (h : (datum labels vars [] false s).2 = true) (hp : Lib.hasPrefix s ([46, 100, 97, 116, 97, 32] : Str) = true) : dataSize (splitOn 32 s) = true := by
  unfold datum at h
  rw [if_pos (dot_data hp)] at h
  exact h
theorem GOk.line {g : Gt} {i : Nat} (h : GOk g i) (s : Str) : GOk (gatherLine g i s) (i + 1) := by
  unfold gatherLine
  split
  · obtain ⟨h1, h2, h3, h4, h5, h6, h7, h8, h9, h10⟩ := h
    exact ⟨by simp only; omega, by simp only; omega, h3, by simp only; omega, h5, by simp only; omega, fun n v e => by have := h7 n v e; omega, h8, by simp only; omega, h10⟩
  · split
    · exact h.name _ _ (.inl (by decide))
    · split
      · rename_i hd
        rw [Bool.and_eq_true] at hd
        have := datum_sized hd.1 hd.2
        unfold dataSize at this
        simp only [Bool.and_eq_true, decide_eq_true_eq] at this
        exact h.name _ _ (.inr ⟨this.1.2, this.2⟩)
      · exact h.wait
end Go.Proofs.YtfkfdffhajokkaaGreatDoor
