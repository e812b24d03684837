/- What package x86's question whether a name is known answers; conditions: the names that are gathered, as they lie in memory. -/
import Derived.Test.YtfkfdffhajokkaaGreatDoorA11
import Derived.Test.YtfkfdffhajokkaaGreatDoorA10
import Derived.Deep.LoopGhost
namespace Go.Proofs.YtfkfdffhajokkaaGreatDoor
open Go.RowKit X
set_option linter.unusedSimpArgs false
abbrev Pv (p : Int × Int) : Value := .agg #[.int .i64 p.1, .int .i64 p.2]
def labV (l : List (Str × Int)) : List (Value × Value) := l.map fun p => (.string (St p.1), .int .i64 p.2)
def varV (l : List (Str × (Int × Int))) : List (Value × Value) := l.map fun p => (.string (St p.1), Pv p.2)
theorem und64 : Tryz.prog.underlying 64 = some (.map 9 110) := by kernel_rfl
theorem und63 : Tryz.prog.underlying 63 = some (.map 9 3) := by kernel_rfl
theorem zero110 (w : World) : (zeroValue 110).run Tryz.prog w = .ok (Pv (0, 0)) w := by kernel_rfl
theorem zero3 (w : World) : (zeroValue 3).run Tryz.prog w = .ok (.int .i64 0) w := by kernel_rfl
/-- The names that a code knows, in the maps of the block p. -/
def Names (w : World) (p : Nat) (labels : List (Str × Int)) (vars : List (Str × (Int × Int))) : Prop :=
  ∃ r1 r2, w.cell? ⟨p, 2, none⟩ = some (.map (some r1)) ∧ MapAt w r1 (labV labels) ∧ w.cell? ⟨p, 3, none⟩ = some (.map (some r2)) ∧ MapAt w r2 (varV vars)
theorem Names.below {w w' : World} {p : Nat} {labels : List (Str × Int)} {vars : List (Str × (Int × Int))} (h : Names w p labels vars) (hb : Below w.heap.size w w') : Names w' p labels vars := by
  obtain ⟨r1, r2, h1, h2, h3, h4⟩ := h
  exact ⟨r1, r2, cell_below hb h1, h2.below hb, cell_below hb h3, h4.below hb⟩
/-- What 'm[k]' runs to. -/
theorem look_run {w : World} {r : Nat} {l : List (Value × Value)} (hat : MapAt w r l) {kd : TypeDesc} (hl : KeysOk kd l) {k : Value} (hk : KeyOk kd k) (T K E : TypeId)
    (ht : Tryz.prog.underlying T = some (.map K E)) (hK : Tryz.prog.underlying K = some kd) (z : Value) (hz : ∀ w, (zeroValue E).run Tryz.prog w = .ok z w) (ok : Bool) (v : Option Value) (hv : lookV l k = v) :
    (Instr.lookup T (.map (some r)) k ok).run Tryz.prog w = .ok (if ok then .tuple #[v.getD z, .bool v.isSome] else v.getD z) w := by
  subst hv
  obtain ⟨es, clk, hb, hes, f, hf, hf'⟩ := find_at hat hl hk
  unfold Instr.lookup
  rw [← hf']
  simp only [Sem.run_bind, run_underlying ht, Result.andThen, Go.MapKept.run_getObj_map hb, Sem.run_pure, Go.MapKept.run_checkKey hK hk.isKey, Go.MapKept.run_findKey hK hf]
  cases f with
  | none => simp only [Sem.run_bind, hz, Result.andThen, Sem.run_pure]; cases ok <;> rfl
  | some p => simp only [Sem.run_bind, Result.andThen, Sem.run_pure]; cases ok <;> rfl
theorem lab_run {w : World} {r : Nat} {l : List (Str × Int)} (hat : MapAt w r (labV l)) (k : ByteArray) : (Instr.lookup 63 (.map (some r)) (.string k) true).run Tryz.prog w = .ok (.tuple #[.int .i64 ((l.lookup (bl k)).getD 0), .bool (l.lookup (bl k)).isSome]) w := by
  rw [look_run hat (keysOk_str (fun n => .int .i64 n) l) (.str k) 63 9 3 und63 und9 _ zero3 true _ (lookV_str (fun n => .int .i64 n) l k)]
  cases l.lookup (bl k) <;> rfl
theorem var_run {w : World} {r : Nat} {l : List (Str × (Int × Int))} (hat : MapAt w r (varV l)) (k : ByteArray) : (Instr.lookup 64 (.map (some r)) (.string k) true).run Tryz.prog w = .ok (.tuple #[Pv ((l.lookup (bl k)).getD (0, 0)), .bool (l.lookup (bl k)).isSome]) w := by
  rw [look_run hat (keysOk_str (fun n => Pv n) l) (.str k) 64 9 110 und64 und9 _ zero110 true _ (lookV_str (fun n => Pv n) l k)]
  cases l.lookup (bl k) <;> rfl
theorem MapAt.drewN {w : World} {r : Nat} {l : List (Value × Value)} (h : MapAt w r l) (n : Nat) : MapAt (w.drewN n) r l := h
theorem MapAt.lt {w : World} {r : Nat} {l : List (Value × Value)} (h : MapAt w r l) : r < w.heap.size := by
  obtain ⟨es, clk, h1, _⟩ := h
  exact (Array.getElem?_eq_some_iff.1 h1).1
set_option maxRecDepth 100000 in
theorem knows_any (p : Nat) (o : Opd) (labels : List (Str × Int)) (vars : List (Str × (Int × Int))) (w : World) (N : Names w p labels vars) :
    Calls Tryz.prog 49 #[.pointer (some ⟨p, 0, none⟩), Ov o] w fun e w' => e = .returned (.bool (knows labels vars o)) ∧ Below w.heap.size w w' := by
  obtain ⟨r1, r2, h1, h2, h3, h4⟩ := N
  obtain ⟨R, hR⟩ : ∃ R, knows labels vars o = R := ⟨_, rfl⟩
  rw [hR]
  unfold knows at hR
  obtain ⟨kind, reg, bytes, n, x, scale, name⟩ := o
  simp only at hR
  obtain ⟨a, ha⟩ : ∃ a, labels.lookup name = a := ⟨_, rfl⟩
  obtain ⟨b, hb⟩ : ∃ a, vars.lookup name = a := ⟨_, rfl⟩
  rw [ha, hb] at hR
  have hR := Lib.hid hR
  have hp := World.block_lt_of_cell? w _ h1
  simp only at hp
  have X := Bx.new (w := w) (c := #[.int .i64 kind, .int .i64 reg, .int .i64 bytes, .int .i64 n, .int .i64 x, .int .i64 scale, .string (St name)]) (T := 118)
  have hx := X.cell
  have hl1 := fun m => lab_run ((h2.alloc h2.lt (.cells #[.int .i64 kind, .int .i64 reg, .int .i64 bytes, .int .i64 n, .int .i64 x, .int .i64 scale, .string (St name)] 118)).drewN m) (St name)
  have hl2 := fun m => var_run ((h4.alloc h4.lt (.cells #[.int .i64 kind, .int .i64 reg, .int .i64 bytes, .int .i64 n, .int .i64 x, .int .i64 scale, .string (St name)] 118)).drewN m) (St name)
  have hl3 := fun m => var_run (((h4.alloc h4.lt (.cells #[.int .i64 kind, .int .i64 reg, .int .i64 bytes, .int .i64 n, .int .i64 x, .int .i64 scale, .string (St name)] 118)).drewN m).alloc (Nat.lt_of_lt_of_le h4.lt (by simp)) (.cells #[.int .i64 0, .int .i64 0] 110)) (St name)
  rw [bl_St, ha] at hl1
  rw [bl_St, hb] at hl2 hl3
  clear X ha hb
  have key : ∀ (k4 k3 e : Bool), (kind == 4) = k4 → (kind == 3) = k3 → name.isEmpty = e → (if k4 then a.isSome else if k3 && !e then b.isSome else true) = R →
      Calls Tryz.prog 49 #[.pointer (some ⟨p, 0, none⟩), Ov ⟨kind, reg, bytes, n, x, scale, name⟩] w fun e w' => e = .returned (.bool R) ∧ Below w.heap.size w w' := by
    intro k4 k3 e h4 h3 he hr
    have he' : (St name).toList.isEmpty = e := by rw [← he, ByteArray.toList_eq]
    cases k4 with
    | true =>
      obtain rfl : a.isSome = R := hr
      go_enter Tryz.func49, Tryz.ntmps49
      go_wp2_with fail
      go_quiet (fail)
      go_wp2_with fail
      go_region
      go_wp2_with fail
      all_goals (go_ret; exact ⟨rfl, by (repeat' (first | with_reducible assumption | with_reducible exact Below.refl _ _ | (with_reducible refine below_drewN ?_ _) | (with_reducible refine Below.drew ?_) | (with_reducible refine balloc ?_ _) | (with_reducible refine Below.setCell ?_ (by first | exact Nat.le_refl _ | (simp; done) | omega | (simp; omega)) _) | (with_reducible refine bstep ?_ (by with_reducible assumption))))⟩)
    | false =>
      cases k3 with
      | false =>
        obtain rfl : true = R := hr
        go_enter Tryz.func49, Tryz.ntmps49
        go_wp2_with fail
        go_quiet (fail)
        go_wp2_with fail
        go_region
        go_wp2_with fail
        all_goals (go_ret; exact ⟨rfl, by (repeat' (first | with_reducible assumption | with_reducible exact Below.refl _ _ | (with_reducible refine below_drewN ?_ _) | (with_reducible refine Below.drew ?_) | (with_reducible refine balloc ?_ _) | (with_reducible refine Below.setCell ?_ (by first | exact Nat.le_refl _ | (simp; done) | omega | (simp; omega)) _) | (with_reducible refine bstep ?_ (by with_reducible assumption))))⟩)
      | true =>
        cases e with
        | true =>
          obtain rfl : true = R := hr
          go_enter Tryz.func49, Tryz.ntmps49
          go_wp2_with fail
          go_quiet (fail)
          go_wp2_with fail
          go_region
          go_wp2_with fail
          all_goals (go_ret; exact ⟨rfl, by (repeat' (first | with_reducible assumption | with_reducible exact Below.refl _ _ | (with_reducible refine below_drewN ?_ _) | (with_reducible refine Below.drew ?_) | (with_reducible refine balloc ?_ _) | (with_reducible refine Below.setCell ?_ (by first | exact Nat.le_refl _ | (simp; done) | omega | (simp; omega)) _) | (with_reducible refine bstep ?_ (by with_reducible assumption))))⟩)
        | false =>
          obtain rfl : b.isSome = R := hr
          go_enter Tryz.func49, Tryz.ntmps49
          go_wp2_with fail
          go_quiet (fail)
          go_wp2_with fail
          go_region
          go_wp2_with fail
          all_goals (go_ret; exact ⟨rfl, by (repeat' (first | with_reducible assumption | with_reducible exact Below.refl _ _ | (with_reducible refine below_drewN ?_ _) | (with_reducible refine Below.drew ?_) | (with_reducible refine balloc ?_ _) | (with_reducible refine Below.setCell ?_ (by first | exact Nat.le_refl _ | (simp; done) | omega | (simp; omega)) _) | (with_reducible refine bstep ?_ (by with_reducible assumption))))⟩)
  refine key _ _ _ rfl rfl rfl ?_
  rw [← hR.out]
  by_cases h4 : kind = 4
  · subst h4; rfl
  · by_cases h3 : kind = 3
    · subst h3; cases name.isEmpty <;> rfl
    · have e4 := beq_f h4
      have e3 := beq_f h3
      rw [e4, e3, if_neg h4]
      simp [h3]
end Go.Proofs.YtfkfdffhajokkaaGreatDoor
/- What package x86's reading of one instruction answers; conditions: a text shorter than 2^32 less 15 bytes, the library's variables and the table of forms as they begin, the names that are gathered. -/
namespace Go.Proofs.YtfkfdffhajokkaaGreatDoor
open Go.RowKit X
set_option linter.unusedSimpArgs false
def opCells (o : Opd) : List Value := [.int .i64 o.kind, .int .i64 o.reg, .int .i64 o.bytes, .int .i64 o.n, .int .i64 o.x, .int .i64 o.scale, .string (St o.name)]
def opsFlat (l : List Opd) : List Value := l.flatMap opCells
theorem opsFlat_app (l : List Opd) (o : Opd) : opsFlat (l ++ [o]) = opsFlat l ++ opCells o := by simp [opsFlat]
theorem ownsRow_cell {w : World} {base : Nat} {e : TypeId} {size : Nat} {v : Value} {n : Nat} {xs : List Value} (h : w.ownsRow base e size v n xs) (hn : 0 < n) :
    ∃ g cap, v = .slice (some ⟨g, 0, none⟩) n cap ∧ base ≤ g ∧ g < w.heap.size ∧ ∀ i, i < n * size → w.cell? ⟨g, i, none⟩ = xs[i]? := by
  obtain ⟨h1, h2⟩ := h
  rcases h2 with ⟨_, rfl⟩ | ⟨g, cap, cur, rfl, hg, hh, hc, hm, hs, rfl⟩
  · omega
  · refine ⟨g, cap, rfl, hg, (Array.getElem?_eq_some_iff.1 hh).1, fun i hi => ?_⟩
    unfold World.cell?
    simp only [hh]
    rw [List.getElem?_take_of_lt hi]
    simp
theorem ownsRow_mono {w : World} {base base' : Nat} {e : TypeId} {size : Nat} {v : Value} {n : Nat} {xs : List Value} (h : w.ownsRow base e size v n xs) (hb : base' ≤ base) : w.ownsRow base' e size v n xs := by
  obtain ⟨h1, h2⟩ := h
  refine ⟨h1, ?_⟩
  rcases h2 with h2 | ⟨g, cap, cur, rfl, hg, r⟩
  · exact .inl h2
  · exact .inr ⟨g, cap, cur, rfl, Nat.le_trans hb hg, r⟩
theorem Bx.grown {w w' : World} {b : Nat} {c : Array Value} {T : TypeId} {row : Option Nat} (h : Bx w b c T) (hg : w.grownBy w' row) (hne : row ≠ some b) : Bx w' b c T := h.of_block (hg.block b h.lt (fun e => hne e.symm))
theorem strsAt_of {w : World} {base : Nat} {v : Value} {l : List Str} (h : w.ownsRow base 9 1 v l.length (strs l)) : StrsAt w v l := by
  rcases Nat.eq_zero_or_pos l.length with h0 | h0
  · obtain ⟨ad, cap, rfl, _⟩ := ownsRow_at h
    exact ⟨ad, cap, rfl, fun h => absurd h (by omega)⟩
  · obtain ⟨g, cap, rfl, hg, hl, hc⟩ := ownsRow_cell h h0
    refine ⟨_, cap, rfl, fun _ => ⟨g, 0, rfl, fun i hi => ?_⟩⟩
    rw [Nat.zero_add, hc i (by omega)]
    simp [strs, hi]
theorem drop_getD' {α : Type} (d : α) (l : List α) (k : Nat) (h : k < l.length) : l.drop k = l.getD k d :: l.drop (k + 1) := by
  rw [List.drop_eq_getElem_cons h]; simp [h]
theorem splitArgs_short : ∀ (k : Nat) (s : Str), ∀ x ∈ splitArgs k s, x.length ≤ s.length
  | 0, s, x, h => by simp [splitArgs] at h
  | k + 1, s, x, h => by
    unfold splitArgs at h
    split at h
    · simp at h
    · split at h
      · simp only [List.mem_singleton] at h; subst h; exact Nat.le_refl _
      · simp only [List.mem_cons] at h
        rcases h with rfl | h
        · simp; omega
        · split at h
          · simp only [List.mem_singleton] at h; subst h; simp
          · have := splitArgs_short k _ x h; simp at this; omega
theorem getD_short {l : List Str} {n : Nat} (h : ∀ x ∈ l, x.length ≤ n) (i : Nat) : (l.getD i []).length ≤ n := by
  rcases Nat.lt_or_ge i l.length with hi | hi
  · have : l.getD i [] ∈ l := by rw [List.getD_eq_getElem?_getD, List.getElem?_eq_getElem hi]; simp
    exact h _ this
  · rw [List.getD_eq_getElem?_getD, List.getElem?_eq_none hi]; simp
def asciiB (l : Str) : Bool := l.all fun c => decide (c.toNat < 128)
theorem ascii_of {l : Str} (h : asciiB l = true) : Ascii l := by
  intro k hk
  have := List.all_eq_true.1 h (l.getD k 0) (by rw [List.getD_eq_getElem?_getD, List.getElem?_eq_getElem hk]; simp)
  exact of_decide_eq_true this
theorem ways_ascii (s : Str) : ∀ way ∈ X.ways s, ∀ f ∈ way, asciiB f = true := by
  have h : ∀ ws : List (List Str), (ws.all fun way => way.all asciiB) = true → ∀ way ∈ ws, ∀ f ∈ way, asciiB f = true := by
    intro ws h way hw f hf
    exact List.all_eq_true.1 (List.all_eq_true.1 h way hw) f hf
  refine h _ ?_
  unfold X.ways
  cases hw : formsTab.lookup s with
  | some ws => exact lookup_all (P := fun ws => (ws.all fun way => way.all asciiB) = true) formsTab (by decide) hw
  | none =>
    simp only
    split
    · rfl
    · split <;> rfl
theorem ways_len (s : Str) : (X.ways s).length ≤ 2 := by
  unfold X.ways
  cases hw : formsTab.lookup s with
  | some ws => exact lookup_all (P := fun ws => ws.length ≤ 2) formsTab (by decide) hw
  | none =>
    simp only
    split
    · decide
    · split <;> decide
theorem ways_short (s : Str) : ∀ way ∈ X.ways s, way.length ≤ 2 := by
  have h : ∀ ws : List (List Str), (ws.all fun way => decide (way.length ≤ 2)) = true → ∀ way ∈ ws, way.length ≤ 2 := by
    intro ws h way hw
    exact of_decide_eq_true (List.all_eq_true.1 h way hw)
  refine h _ ?_
  unfold X.ways
  cases hw : formsTab.lookup s with
  | some ws => exact lookup_all (P := fun ws => (ws.all fun way => decide (way.length ≤ 2)) = true) formsTab (by decide) hw
  | none =>
    simp only
    split
    · rfl
    · split <;> rfl
end Go.Proofs.YtfkfdffhajokkaaGreatDoor
