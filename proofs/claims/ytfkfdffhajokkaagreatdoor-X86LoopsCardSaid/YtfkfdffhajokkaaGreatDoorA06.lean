/- Laws of the walk for small maps with texts or whole numbers as keys, and what the functions of package x86 that make such maps answer; conditions: none. -/
import Derived.Test.YtfkfdffhajokkaaGreatDoorA05
import Derived.Maps.OwnOps
import Derived.MapKept
namespace Go.Proofs.YtfkfdffhajokkaaGreatDoor
open Go.RowKit X
/-- The entries of a map, in the order in which they came. -/
def MapAt (w : World) (r : Nat) (l : List (Value × Value)) : Prop :=
  ∃ es clk, w.heap[r]? = some (.map es clk) ∧ es.toList.map (fun e => (e.key, e.val)) = l
/-- Only the map in block r has turned. -/
structure Mapped (w w' : World) (r : Nat) : Prop where
  os : w'.os = w.os
  tape : w'.tape = w.tape
  output : w'.output = w.output
  size : w'.heap.size = w.heap.size
  block : ∀ k, k ≠ r → w'.heap[k]? = w.heap[k]?
theorem bmapped {w a b : World} {r : Nat} (h : Below w.heap.size w a) (m : Mapped a b r) (hr : w.heap.size ≤ r) : Below w.heap.size w b :=
  h.trans ⟨m.os, m.tape, m.output, by rw [m.size]; exact Nat.le_refl _, fun k hk => m.block k (by omega)⟩
theorem MapAt.of_block {w w' : World} {r : Nat} {l : List (Value × Value)} (h : MapAt w r l) (e : w'.heap[r]? = w.heap[r]?) : MapAt w' r l := by
  obtain ⟨es, clk, h1, h2⟩ := h
  exact ⟨es, clk, e.trans h1, h2⟩
theorem MapAt.made (w : World) : MapAt (w.alloc (.map #[] 0)) w.heap.size [] := ⟨#[], 0, (Go.MapKept.heap_alloc w _).1, rfl⟩
def sameV (a b : Value) : Bool := match a, b with
  | .string a, .string b => bl a == bl b
  | .int j a, .int k b => j == k && a == b
  | _, _ => false
def lookV (l : List (Value × Value)) (k : Value) : Option Value := (l.find? fun p => sameV k p.1).map (·.2)
inductive KeyOk : TypeDesc → Value → Prop where
  | str (s : ByteArray) : KeyOk .string (.string s)
  | int (n : Int) : KeyOk (.int .i64) (.int .i64 n)
theorem KeyOk.isKey {kd : TypeDesc} {v : Value} (h : KeyOk kd v) : Go.MapKept.IsKey kd v := by cases h <;> simp [Go.MapKept.IsKey]
theorem bytes_bl (a b : ByteArray) : (a == b) = (bl a == bl b) := by
  rw [Bool.eq_iff_iff, Go.MapKept.bytes_beq, beq_iff_eq]
  constructor
  · rintro rfl; rfl
  · intro h; obtain ⟨⟨a⟩⟩ := a; obtain ⟨⟨b⟩⟩ := b; have h' : a = b := h; subst h'; rfl
theorem sameNow_ok {kd : TypeDesc} {a b : Value} (ha : KeyOk kd a) (hb : KeyOk kd b) : Instr.sameNow kd a b = some (sameV a b) := by
  cases ha <;> cases hb
  · simp [Instr.sameNow, sameV, bytes_bl]
  · simp [Instr.sameNow, sameV]
theorem findNow_ok {kd : TypeDesc} {k : Value} (hk : KeyOk kd k) : ∀ (es : List MapEntry) (i : Nat), (∀ e ∈ es, KeyOk kd e.key) →
    ∃ r, Instr.findNow kd k es i = some r ∧ r.map (·.2) = lookV (es.map fun e => (e.key, e.val)) k
  | [], i, _ => ⟨none, rfl, rfl⟩
  | e :: es, i, h => by
    have h0 := sameNow_ok hk (h e (by simp))
    obtain ⟨r, hr, hr'⟩ := findNow_ok hk es (i + 1) (fun x hx => h x (by simp [hx]))
    unfold Instr.findNow
    rw [h0]
    cases hs : sameV k e.key
    · exact ⟨r, hr, by rw [hr']; simp [lookV, hs]⟩
    · exact ⟨some (i, e.val), rfl, by simp [lookV, hs]⟩
def KeysOk (kd : TypeDesc) (l : List (Value × Value)) : Prop := ∀ p ∈ l, KeyOk kd p.1
theorem find_at {w : World} {r : Nat} {l : List (Value × Value)} (hm : MapAt w r l) {kd : TypeDesc} (hl : KeysOk kd l) {k : Value} (hk : KeyOk kd k) :
    ∃ es clk, w.heap[r]? = some (.map es clk) ∧ es.toList.map (fun e => (e.key, e.val)) = l ∧ ∃ f, Instr.findNow kd k es.toList 0 = some f ∧ f.map (·.2) = lookV l k := by
  obtain ⟨es, clk, h1, h2⟩ := hm
  subst h2
  obtain ⟨f, hf, hf'⟩ := findNow_ok hk es.toList 0 (fun e he => hl (e.key, e.val) (List.mem_map_of_mem he))
  exact ⟨es, clk, h1, rfl, f, hf, hf'⟩
/-- 'm[k]', 'v, ok := m[k]'. -/
theorem wpList_look {ops : Array Oper} {rest : List Oper} {o : Oper} {a : Act} {Q : Exit → Act → World → Prop} {w : World}
    (hg : o.guard = none) (m x : Operand) (T : TypeId) (ok : Bool) (hop : o.op = Op.lookup T m x ok)
    (K E : TypeId) (kd : TypeDesc) (ht : Tryz.prog.underlying T = some (.map K E)) (hK : Tryz.prog.underlying K = some kd) (z : Value) (hz : ∀ w, (zeroValue E).run Tryz.prog w = .ok z w)
    (r : Nat) (l : List (Value × Value)) (hm : a.eval m = .map (some r)) (hat : MapAt w r l) (hl : KeysOk kd l) (k : Value) (hx : a.eval x = k) (hk : KeyOk kd k)
    (hQ : wpList Tryz.prog ops Q rest (a.put o.dst (if ok then .tuple #[(lookV l k).getD z, .bool (lookV l k).isSome] else (lookV l k).getD z)) w) :
    wpList Tryz.prog ops Q (o :: rest) a w := by
  refine wpList_plain hg fun K' hK' => ?_
  obtain ⟨es, clk, hb, hes, f, hf, hf'⟩ := find_at hat hl hk
  have hrun : (Instr.lookup T (.map (some r)) k ok).run Tryz.prog w = .ok (if ok then .tuple #[(lookV l k).getD z, .bool (lookV l k).isSome] else (lookV l k).getD z) w := by
    unfold Instr.lookup
    rw [← hf']
    simp only [Sem.run_bind, run_underlying ht, Result.andThen, Go.MapKept.run_getObj_map hb, Sem.run_pure, Go.MapKept.run_checkKey hK hk.isKey, Go.MapKept.run_findKey hK hf]
    cases f with
    | none => simp only [Sem.run_bind, hz, Result.andThen, Sem.run_pure]; cases ok <;> rfl
    | some p => simp only [Sem.run_bind, Result.andThen, Sem.run_pure]; cases ok <;> rfl
  unfold Oper.wp
  simp only [execOp, hop, hm, hx, Sem.run_bind, hrun, Result.andThen, Sem.run_pure]
  exact hK' _ _ hQ
/-- 'm[k] = v' at a key that is not there yet (a literal's entry; a store). -/
theorem wpList_new {ops : Array Oper} {rest : List Oper} {o : Oper} {a : Act} {Q : Exit → Act → World → Prop} {w : World}
    (hg : o.guard = none) (m x y : Operand) (T : TypeId) (hop : o.op = Op.insert T m x y ∨ o.op = Op.mapUpdate T m x y)
    (K E : TypeId) (kd : TypeDesc) (ht : Tryz.prog.underlying T = some (.map K E)) (hK : Tryz.prog.underlying K = some kd)
    (r : Nat) (l : List (Value × Value)) (hm : a.eval m = .map (some r)) (hat : MapAt w r l) (hl : KeysOk kd l) (k v : Value) (hx : a.eval x = k) (hv : a.eval y = v) (hk : KeyOk kd k) (hn : lookV l k = none)
    (hQ : ∀ w', MapAt w' r (l ++ [(k, v)]) → KeysOk kd (l ++ [(k, v)]) → Mapped w w' r → wpList Tryz.prog ops Q rest (a.put o.dst undef) w') :
    wpList Tryz.prog ops Q (o :: rest) a w := by
  refine wpList_plain hg fun K' hK' => ?_
  obtain ⟨es, clk, hb, hes, f, hf, hf'⟩ := find_at hat hl hk
  rw [hn] at hf'
  have hf0 : f = none := by cases f with
    | none => rfl
    | some p => simp at hf'
  subst hf0
  have hrun : (Instr.mapUpdate T (.map (some r)) k v).run Tryz.prog w = .ok () { w with heap := w.heap.setIfInBounds r (.map (es.push { key := k, val := v, born := clk }) (clk + 1)) } := by
    unfold Instr.mapUpdate
    simp only [Sem.run_bind, run_underlying ht, Result.andThen, Go.MapKept.run_getObj_map hb, Go.MapKept.run_checkKey hK hk.isKey, Go.MapKept.run_findKey hK hf]
    exact Go.MapKept.run_setObj_map _ hb
  have hset := Go.MapKept.heap_set (w := w) (o' := .map (es.push { key := k, val := v, born := clk }) (clk + 1)) hb
  unfold Oper.wp
  rcases hop with hop | hop
  all_goals
    simp only [execOp, hop, hm, hx, hv, Sem.run_bind, hrun, Result.andThen, Sem.run_pure]
    refine hK' _ _ (hQ _ ⟨_, _, hset.1, by simp [hes]⟩ ?_ ⟨rfl, rfl, rfl, by simp, hset.2⟩)
    intro p hp
    rcases List.mem_append.1 hp with hp | hp
    · exact hl p hp
    · simp only [List.mem_singleton] at hp; subst hp; exact hk
theorem u138 : Tryz.prog.underlying 138 = some (.map 9 4) := by kernel_rfl
theorem u9 : Tryz.prog.underlying 9 = some .string := by kernel_rfl
theorem KeysOk.nil (kd : TypeDesc) : KeysOk kd [] := fun _ h => by cases h
def condMap : List (Value × Value) := conds.map fun s => (.string ⟨s.toArray⟩, .bool true)
set_option maxRecDepth 100000 in
theorem conds_any (w : World) :
    Calls Tryz.prog 76 #[] w fun e w' => ∃ r, e = .returned (.map (some r)) ∧ MapAt w' r condMap ∧ Below w.heap.size w w' := by
  have hmm := @run_makeMap Tryz.prog
  have hat := MapAt.made w
  have hk := KeysOk.nil .string
  have hb := balloc (Below.refl w.heap.size w) (.map #[] 0)
  go_enter Tryz.func76, Tryz.ntmps76
  go_wp2_with (refine wpList_new rfl (.tmp 1) _ _ 138 (.inl rfl) 9 4 .string u138 u9 _ _ rfl hat hk _ _ rfl rfl (.str _) (by kernel_rfl) ?_; clear hat hk; have hb' := hb; clear hb; intro w1 hat hk hm; have hb := bmapped hb' hm (Nat.le_refl _); clear hb' hm)
  go_ret
  exact ⟨_, rfl, hat, hb⟩
/-! ### The registers' names -/
theorem u190 : Tryz.prog.underlying 190 = some (.map 3 29) := by kernel_rfl
theorem u3 : Tryz.prog.underlying 3 = some (.int .i64) := by kernel_rfl
theorem u29 : Tryz.prog.underlying 29 = some (.slice 9) := by kernel_rfl
def rowOf (l : List Str) : Array Value := (l.map fun s => Value.string ⟨s.toArray⟩).toArray
structure NS (w W : World) (l : List (Value × Value)) (r : Nat) : Prop where
  at_ : MapAt W r l
  keys : KeysOk (.int .i64) l
  below : Below w.heap.size w W
  lo : w.heap.size ≤ r
  hi : r < W.heap.size
  rows : ∀ p ∈ l, ∃ n b, p = (.int .i64 n, .slice (some ⟨b, 0, none⟩) 16 16) ∧ b ≠ r ∧ b < W.heap.size ∧ W.heap[b]? = some (.cells (rowOf (names n)) 9 (0, 0))
theorem MapAt.alloc {w : World} {r : Nat} {l : List (Value × Value)} (h : MapAt w r l) (hr : r < w.heap.size) (o : Obj) : MapAt (w.alloc o) r l := h.of_block (Below.heap_alloc _ _ _ hr)
theorem NS.made (w : World) : NS w (w.alloc (.map #[] 0)) [] w.heap.size :=
  ⟨MapAt.made w, KeysOk.nil _, balloc (Below.refl _ _) _, Nat.le_refl _, by simp, fun p h => by cases h⟩
theorem NS.step {w W W' : World} {l : List (Value × Value)} {r b : Nat} (h : NS w W l r) (n : Int) (c : Array Value) (hc : c = rowOf (names n))
    (hat : MapAt W' r (l ++ [(.int .i64 n, .slice (some ⟨b, 0, none⟩) 16 16)])) (hk : KeysOk (.int .i64) (l ++ [(.int .i64 n, .slice (some ⟨b, 0, none⟩) 16 16)])) (m : Mapped (W.alloc (.cells c 9)) W' r) (hb : b = W.heap.size) :
    NS w W' (l ++ [(.int .i64 n, .slice (some ⟨b, 0, none⟩) 16 16)]) r := by
  subst hc hb
  have hs : W'.heap.size = W.heap.size + 1 := by rw [m.size]; simp
  have hi := h.hi
  refine ⟨hat, hk, bmapped (balloc h.below _) m h.lo, h.lo, by omega, fun p hp => ?_⟩
  rcases List.mem_append.1 hp with hp | hp
  · obtain ⟨n', b, rfl, h1, h2, h3⟩ := h.rows p hp
    exact ⟨n', b, rfl, h1, by omega, by rw [m.block b h1, Below.heap_alloc _ _ _ h2]; exact h3⟩
  · simp only [List.mem_singleton] at hp
    subst hp
    exact ⟨n, _, rfl, by omega, by omega, by rw [m.block _ (by omega)]; exact (Go.MapKept.heap_alloc W _).1⟩
set_option maxRecDepth 100000 in
theorem names_ns (w : World) : Calls Tryz.prog 139 #[] w fun e w' => ∃ r b8 b4 b2 b1, e = .returned (.map (some r)) ∧
    NS w w' [(.int .i64 8, .slice (some ⟨b8, 0, none⟩) 16 16), (.int .i64 4, .slice (some ⟨b4, 0, none⟩) 16 16), (.int .i64 2, .slice (some ⟨b2, 0, none⟩) 16 16), (.int .i64 1, .slice (some ⟨b1, 0, none⟩) 16 16)] r := by
  have hmm := @run_makeMap Tryz.prog
  have hN := NS.made w
  go_enter Tryz.func139, Tryz.ntmps139
  go_wp2_with (refine wpList_new rfl (.tmp 1) _ _ 190 (.inl rfl) 3 29 (.int .i64) u190 u3 _ _ rfl (hN.at_.alloc hN.hi _) hN.keys _ _ rfl rfl (.int _) (by kernel_rfl) ?_; have hN' := hN; clear hN; intro w1 hat hk hm; have hN := hN'.step _ _ rfl hat hk hm (by first | rfl | simp); clear hN' hm hat hk)
  go_ret
  exact ⟨_, _, _, _, _, rfl, hN⟩
end Go.Proofs.YtfkfdffhajokkaaGreatDoor
/- What the small functions of package x86 that read a register or a number, and that name the extensions, parts and sums, answer; conditions: a text shorter than 2^32 less 15 bytes, the library's variables as they begin. -/
namespace Go.Proofs.YtfkfdffhajokkaaGreatDoor
open Go.RowKit X
abbrev Ov (o : Opd) : Value := .agg #[.int .i64 o.kind, .int .i64 o.reg, .int .i64 o.bytes, .int .i64 o.n, .int .i64 o.x, .int .i64 o.scale, .string (St o.name)]
theorem width_any (n : Int) (s : Bool) (h0 : 0 ≤ n) (h1 : n ≤ 8) (w : World) :
    Calls Tryz.prog 116 #[.int .i64 n, .bool s] w fun e w' => e = .returned (Wd (8 * n) s) ∧ Below w.heap.size w w' := by
  go_enter Tryz.func116, Tryz.ntmps116
  go_wp2
  exact bodyPost_ret (v := Wd (8 * n) s) (by simp [results, Tryz.results116, go_sem]) rfl ⟨rfl, by (repeat' (first | with_reducible assumption | with_reducible exact Below.refl _ _ | (with_reducible refine below_drewN ?_ _) | (with_reducible refine Below.drew ?_) | (with_reducible refine balloc ?_ _) | (with_reducible refine Below.setCell ?_ (by first | exact Nat.le_refl _ | (simp; done) | omega | (simp; omega)) _) | (with_reducible refine bstep ?_ (by with_reducible assumption))))⟩
theorem u168 : Tryz.prog.underlying 168 = some (.map 9 157) := by kernel_rfl
theorem u63 : Tryz.prog.underlying 63 = some (.map 9 3) := by kernel_rfl
def extMap : List (Value × Value) := extTab.map fun p => (.string (St p.1), Wd p.2.1 p.2.2)
def partMap : List (Value × Value) := partTab.map fun p => (.string (St p.1), .int .i64 p.2)
def sumMap : List (Value × Value) := sumTab.map fun p => (.string (St p.1), .int .i64 p.2)
set_option maxRecDepth 100000 in
theorem parts_any (w : World) : Calls Tryz.prog 115 #[] w fun e w' => ∃ r, e = .returned (.map (some r)) ∧ MapAt w' r partMap ∧ Below w.heap.size w w' := by
  have hmm := @run_makeMap Tryz.prog
  have hat := MapAt.made w
  have hk := KeysOk.nil .string
  have hb := balloc (Below.refl w.heap.size w) (.map #[] 0)
  go_enter Tryz.func115, Tryz.ntmps115
  go_wp2_with (refine wpList_new rfl (.tmp 1) _ _ 63 (.inl rfl) 9 3 .string u63 u9 _ _ rfl hat hk _ _ rfl rfl (.str _) (by kernel_rfl) ?_; clear hat hk; have hb' := hb; clear hb; intro w1 hat hk hm; have hb := bmapped hb' hm (Nat.le_refl _); clear hb' hm)
  go_ret
  exact ⟨_, rfl, hat, hb⟩
set_option maxRecDepth 100000 in
theorem sums_any (w : World) : Calls Tryz.prog 117 #[] w fun e w' => ∃ r, e = .returned (.map (some r)) ∧ MapAt w' r sumMap ∧ Below w.heap.size w w' := by
  have hmm := @run_makeMap Tryz.prog
  have hat := MapAt.made w
  have hk := KeysOk.nil .string
  have hb := balloc (Below.refl w.heap.size w) (.map #[] 0)
  go_enter Tryz.func117, Tryz.ntmps117
  go_wp2_with (refine wpList_new rfl (.tmp 1) _ _ 63 (.inl rfl) 9 3 .string u63 u9 _ _ rfl hat hk _ _ rfl rfl (.str _) (by kernel_rfl) ?_; clear hat hk; have hb' := hb; clear hb; intro w1 hat hk hm; have hb := bmapped hb' hm (Nat.le_refl _); clear hb' hm)
  go_ret
  exact ⟨_, rfl, hat, hb⟩
theorem MapAt.below {w w' : World} {r : Nat} {l : List (Value × Value)} (h : MapAt w r l) (hb : Below w.heap.size w w') : MapAt w' r l := by
  obtain ⟨es, clk, h1, h2⟩ := h
  have hr : r < w.heap.size := (Array.getElem?_eq_some_iff.1 h1).1
  exact ⟨es, clk, by rw [hb.block r hr]; exact h1, h2⟩
set_option maxRecDepth 100000 in
theorem ext_any (w : World) : Calls Tryz.prog 112 #[] w fun e w' => ∃ r, e = .returned (.map (some r)) ∧ MapAt w' r extMap ∧ Below w.heap.size w w' := by
  have hmm := @run_makeMap Tryz.prog
  have hat := MapAt.made w
  have hk := KeysOk.nil .string
  have hb := balloc (Below.refl w.heap.size w) (.map #[] 0)
  go_enter Tryz.func112, Tryz.ntmps112
  go_wp2_with (first | (go_at_call 116; refine (width_any _ _ (by decide) (by decide) _).mono ?_; rintro e w2 ⟨rfl, hb2⟩; have hat' := hat; clear hat; have hat := hat'.below hb2; have hb' := hb; clear hb; have hb := bstep hb' hb2; clear hb' hat' hb2) | (refine wpList_new rfl (.tmp 1) _ _ 168 (.inl rfl) 9 157 .string u168 u9 _ _ rfl hat hk _ _ rfl rfl (.str _) (by kernel_rfl) ?_; clear hat hk; have hb' := hb; clear hb; intro w1 hat hk hm; have hb := bmapped hb' hm (Nat.le_refl _); clear hb' hm))
  go_ret
  exact ⟨_, rfl, hat, hb⟩
theorem lookV_str {α : Type} (f : α → Value) : ∀ (t : List (Str × α)) (s : ByteArray), lookV (t.map fun p => (.string (St p.1), f p.2)) (.string s) = (t.lookup (bl s)).map f
  | [], _ => rfl
  | p :: t, s => by
    have ih := lookV_str f t s
    have e : sameV (.string s) (.string (St p.1)) = (bl s == p.1) := rfl
    unfold lookV at ih ⊢
    rw [List.map_cons, List.find?_cons, List.lookup_cons, e]
    cases (bl s == p.1)
    · simpa using ih
    · rfl
theorem keysOk_str {α : Type} (f : α → Value) (t : List (Str × α)) : KeysOk .string (t.map fun p => (.string (St p.1), f p.2)) := by
  intro q hq
  obtain ⟨p, _, rfl⟩ := List.mem_map.1 hq
  exact .str _
theorem rowOf_cell {w : World} {b : Nat} {l : List Str} (h : w.heap[b]? = some (.cells (rowOf l) 9 (0, 0))) (k : Nat) (hk : k < l.length) : w.cell? ⟨b, k, none⟩ = some (.string (St (l.getD k []))) := by
  unfold World.cell?
  simp only [h, rowOf]
  simp [hk]
theorem names_short (b : Int) (k : Nat) : ((names b).getD k []).length ≤ 4 := by
  have h : ∀ x ∈ names b, x.length ≤ 4 := by
    unfold names
    split
    · decide
    · split
      · decide
      · split
        · decide
        · split
          · decide
          · intro x hx; cases hx
  rw [List.getD_eq_getElem?_getD]
  cases hx : (names b)[k]? with
  | none => simp
  | some x => exact h x (List.mem_of_getElem? hx)
theorem app_list (a b : ByteArray) : (a ++ b).toList = bl a ++ bl b := by rw [ByteArray.toList_eq]; simp [bl]
theorem pct_list (n : Str) : (({ data := #[37] } : ByteArray) ++ St n).toList = 37 :: n := by rw [app_list]; rfl
theorem find_step (s : Str) (l : List Str) (k : Nat) (hk : k < l.length) : find s k (l.drop k) = if s == 37 :: l.getD k [] then (k : Int) else find s (k + 1) (l.drop (k + 1)) := by
  rw [List.drop_eq_getElem_cons hk]
  have : l.getD k [] = l[k] := by simp [hk]
  rw [this]; rfl
theorem names_row (w : World) (b : Int) (hb : b = 8 ∨ b = 4 ∨ b = 2 ∨ b = 1) : Calls Tryz.prog 139 #[] w fun e w' => ∃ r l bk, e = .returned (.map (some r)) ∧ MapAt w' r l ∧ KeysOk (.int .i64) l ∧
    lookV l (.int .i64 b) = some (.slice (some ⟨bk, 0, none⟩) 16 16) ∧ w'.heap[bk]? = some (.cells (rowOf (names b)) 9 (0, 0)) ∧ Below w.heap.size w w' := by
  refine (names_ns w).mono ?_
  rintro e w' ⟨r, b8, b4, b2, b1, rfl, h⟩
  have q := h.rows
  simp only [List.mem_cons, List.not_mem_nil, or_false, forall_eq_or_imp, forall_eq, Prod.mk.injEq, Value.int.injEq, Value.slice.injEq, Option.some.injEq, Addr.mk.injEq, and_true, true_and] at q
  obtain ⟨⟨_, _, ⟨rfl, rfl⟩, _, _, q8⟩, ⟨_, _, ⟨rfl, rfl⟩, _, _, q4⟩, ⟨_, _, ⟨rfl, rfl⟩, _, _, q2⟩, ⟨_, _, ⟨rfl, rfl⟩, _, _, q1⟩⟩ := q
  rcases hb with rfl | rfl | rfl | rfl
  · exact ⟨r, _, b8, rfl, h.at_, h.keys, rfl, q8, h.below⟩
  · exact ⟨r, _, b4, rfl, h.at_, h.keys, rfl, q4, h.below⟩
  · exact ⟨r, _, b2, rfl, h.at_, h.keys, rfl, q2, h.below⟩
  · exact ⟨r, _, b1, rfl, h.at_, h.keys, rfl, q1, h.below⟩
theorem names_len {b : Int} (hb : b = 8 ∨ b = 4 ∨ b = 2 ∨ b = 1) : (names b).length = 16 := by rcases hb with rfl | rfl | rfl | rfl <;> rfl
theorem zero29 (w : World) : (zeroValue 29).run Tryz.prog w = .ok (.slice none 0 0) w := by kernel_rfl
set_option maxRecDepth 100000 in
theorem register_any (s : ByteArray) (b : Int) (hb : b = 8 ∨ b = 4 ∨ b = 2 ∨ b = 1) (w : World) :
    Calls Tryz.prog 107 #[.string s, .int .i64 b] w fun e w' => e = .returned (.int .i64 (register (bl s) b)) ∧ Below w.heap.size w w' := by
  have hN := fun w => Lib.hid (names_row w b hb)
  have hlen := Lib.hid (names_len hb)
  clear hb
  go_enter Tryz.func107, Tryz.ntmps107
  go_wp2_with fail
  refine ((hN _).out).mono ?_
  rintro e w1 ⟨r, l, bk, rfl, hat, hk, hl, hrow, hb1⟩
  have hl := Lib.hid hl
  have hrow := Lib.hid hrow
  go_wp2_with (at_lookup; refine wpList_look rfl (.tmp 7) (.tmp 8) 190 false rfl 3 29 (.int .i64) u190 u3 _ zero29 r l rfl hat hk (.int .i64 b) rfl (.int _) ?_; rw [hl.out])
  clear hN hk hat hl
  go_loop [11] (fun i => ∃ k : Nat, k ≤ 16 ∧ i = .int .i64 k ∧ Hid (register (bl s) b = find (bl s) k ((names b).drop k))) (fun i => 16 - (intOf i).toNat)
  case atStart => exact ⟨0, by omega, rfl, rfl⟩
  case round =>
    obtain ⟨k, hk, rfl, hg⟩ := hrel
    by_cases hlt : k < 16
    · have hf := find_step (bl s) (names b) k (by rw [hlen.out]; exact hlt)
      have hc := rowOf_cell hrow.out k (by rw [hlen.out]; exact hlt)
      obtain ⟨n, hn⟩ : ∃ n, (names b).getD k [] = n := ⟨_, rfl⟩
      have hnl : 1 + n.length ≤ 9223372036854775807 := by have := names_short b k; rw [hn] at this; omega
      rw [hn] at hf hc
      clear hn
      cases he : (bl s == 37 :: n)
      · rw [he, ← hg.out] at hf
        have he' : (s.toList == (({ data := #[37] } : ByteArray) ++ St n).toList) = false := by rw [ByteArray.toList_eq, pct_list]; exact he
        have hf' := Lib.hid hf
        clear he hg hf
        go_wp2
        go_round
        case rel => exact ⟨k + 1, by omega, by go_num, hf'⟩
        case measure => simp [intOf]; omega
      · rw [he, ← hg.out] at hf
        have he' : (s.toList == (({ data := #[37] } : ByteArray) ++ St n).toList) = true := by rw [ByteArray.toList_eq, pct_list]; exact he
        have hf' := Lib.hid hf
        clear he hg hf
        go_wp2
        go_ret
        exact ⟨ret_int (by rw [hf'.out]; rfl), hb1⟩
    · have hf' := Lib.hid hg.out
      clear hg
      go_wp2
      go_ret
      exact ⟨ret_int (by rw [hf'.out, List.drop_eq_nil_of_le (by rw [hlen.out]; omega)]; rfl), hb1⟩
/-! ### Registers and numbers as operands -/
theorem wide_any (s : ByteArray) (w : World) :
    Calls Tryz.prog 78 #[.string s] w fun e w' => e = .returned (.tuple #[Ov (wide (bl s)).1, .bool (wide (bl s)).2]) ∧ Below w.heap.size w w' := by
  obtain ⟨r, hr⟩ : ∃ r, register (bl s) 8 = r := ⟨_, rfl⟩
  have H : ∀ w, Hid _ := fun w => Lib.hid (register_any s 8 (by simp) w)
  rw [hr] at H
  unfold wide
  rw [hr]
  clear hr
  go_enter Tryz.func78, Tryz.ntmps78
  go_wp2_with fail
  refine ((H _).out).mono ?_
  rintro e w1 ⟨rfl, hbw1⟩
  obtain ⟨hcw1, hfw1⟩ := bcell hbw1
  have hz : w.heap.size < w1.heap.size := by have := hbw1.size; simp at this; omega
  go_wp2
  refine bodyPost_ret (v := .tuple #[Ov ⟨1, r, 8, 0, 0, 0, []⟩, .bool (decide (0 ≤ r))]) (by simp [results, Tryz.results78, go_sem, hcw1]) rfl ⟨rfl, ?_⟩
  (repeat' (first | with_reducible assumption | with_reducible exact Below.refl _ _ | (with_reducible refine below_drewN ?_ _) | (with_reducible refine Below.drew ?_) | (with_reducible refine balloc ?_ _) | (with_reducible refine Below.setCell ?_ (by first | exact Nat.le_refl _ | (simp; done) | omega | (simp; omega)) _) | (with_reducible refine bstep ?_ (by with_reducible assumption))))
theorem part_any (s : ByteArray) (b : Int) (hb : b = 4 ∨ b = 2 ∨ b = 1) (w : World) :
    Calls Tryz.prog 80 #[.string s, .int .i64 b] w fun e w' => e = .returned (.tuple #[Ov (X.part (bl s) b).1, .bool (X.part (bl s) b).2]) ∧ Below w.heap.size w w' := by
  obtain ⟨r, hr⟩ : ∃ r, register (bl s) b = r := ⟨_, rfl⟩
  have H : ∀ w, Hid _ := fun w => Lib.hid (register_any s b (.inr hb) w)
  rw [hr] at H
  unfold X.part
  rw [hr]
  clear hr hb
  go_enter Tryz.func80, Tryz.ntmps80
  go_wp2_with fail
  refine ((H _).out).mono ?_
  rintro e w1 ⟨rfl, hbw1⟩
  obtain ⟨hcw1, hfw1⟩ := bcell hbw1
  have hz : w.heap.size < w1.heap.size := by have := hbw1.size; simp at this; omega
  go_wp2
  refine bodyPost_ret (v := .tuple #[Ov ⟨1, r, b, 0, 0, 0, []⟩, .bool (decide (0 ≤ r))]) (by simp [results, Tryz.results80, go_sem, hcw1]) rfl ⟨rfl, ?_⟩
  (repeat' (first | with_reducible assumption | with_reducible exact Below.refl _ _ | (with_reducible refine below_drewN ?_ _) | (with_reducible refine Below.drew ?_) | (with_reducible refine balloc ?_ _) | (with_reducible refine Below.setCell ?_ (by first | exact Nat.le_refl _ | (simp; done) | omega | (simp; omega)) _) | (with_reducible refine bstep ?_ (by with_reducible assumption))))
theorem immediate_any (s : ByteArray) (hs : s.size < 4294967281) (b : Nat) (hb : b = 32 ∨ b = 64) (w : World) (E : Env w) :
    Calls Tryz.prog 77 #[.string s, .int .i64 b] w fun e w' => e = .returned (.tuple #[Ov (immediate (bl s) b).1, .bool (immediate (bl s) b).2]) ∧ Below w.heap.size w w' := by
  obtain ⟨r, hr⟩ : ∃ r, Lib.trimPrefix (bl s) [36] = r := ⟨_, rfl⟩
  obtain ⟨x, hx⟩ : ∃ x, Lib.hasPrefix (bl s) [36] = x := ⟨_, rfl⟩
  obtain ⟨n, hn⟩ : ∃ n, number r b = n := ⟨_, rfl⟩
  obtain ⟨n, f⟩ := n
  have hz : (St r).size < 4294967281 := by have := trimPrefix_le (bl s) [36]; rw [hr, bl_len] at this; rw [St_size]; omega
  have H1 := fun w => Lib.hid (CutPrefix_is s [36] r x hr hx w)
  have H2 : ∀ w E, Hid _ := fun w E => Lib.hid (number_any (St r) hz b hb w E)
  rw [bl_St, hn] at H2
  unfold immediate
  rw [hr, hx, hn]
  clear hr hx hn hz hs hb
  have E1 := E.below (balloc (Below.refl _ _) (.cells #[.int .i64 0, .int .i64 0, .int .i64 0, .int .i64 0, .int .i64 0, .int .i64 0, .string { data := #[] }] 118))
  cases x
  all_goals
    go_enter Tryz.func77, Tryz.ntmps77
    go_wp2_with fail
    refine ((H1 _).out).mono ?_
    rintro e w1 ⟨rfl, rfl⟩
    go_wp2_with fail
    refine ((H2 _ E1).out).mono ?_
    rintro e w1 ⟨rfl, hbw1⟩
    obtain ⟨hcw1, hfw1⟩ := bcell hbw1
    have hz : w.heap.size < w1.heap.size := by have := hbw1.size; simp at this; omega
    go_wp2
    first
      | refine bodyPost_ret (v := .tuple #[Ov ⟨2, 0, 0, n, 0, 0, []⟩, .bool false]) (by simp [results, Tryz.results77, go_sem, hcw1]) rfl ⟨rfl, ?_⟩
      | refine bodyPost_ret (v := .tuple #[Ov ⟨2, 0, 0, n, 0, 0, []⟩, .bool f]) (by simp [results, Tryz.results77, go_sem, hcw1]) rfl ⟨rfl, ?_⟩
    (repeat' (first | with_reducible assumption | with_reducible exact Below.refl _ _ | (with_reducible refine below_drewN ?_ _) | (with_reducible refine Below.drew ?_) | (with_reducible refine balloc ?_ _) | (with_reducible refine Below.setCell ?_ (by first | exact Nat.le_refl _ | (simp; done) | omega | (simp; omega)) _) | (with_reducible refine bstep ?_ (by with_reducible assumption))))
end Go.Proofs.YtfkfdffhajokkaaGreatDoor
/- A block of cells that a call knows whole, carried over what other calls do; conditions: none. -/
namespace Go.Proofs.YtfkfdffhajokkaaGreatDoor
open Go.RowKit X
/-- Block b holds just these cells, none of them frozen. -/
def Bx (w : World) (b : Nat) (c : Array Value) (T : TypeId) : Prop := w.heap[b]? = some (.cells c T (0, 0))
theorem Bx.lt {w : World} {b : Nat} {c : Array Value} {T : TypeId} (h : Bx w b c T) : b < w.heap.size := (Array.getElem?_eq_some_iff.1 h).1
theorem Bx.cell {w : World} {b : Nat} {c : Array Value} {T : TypeId} (h : Bx w b c T) : ∀ i, w.cell? ⟨b, i, none⟩ = c[i]? := fun i => by
  unfold Bx at h; unfold World.cell?; simp only [h]; rfl
theorem Bx.frozen {w : World} {b : Nat} {c : Array Value} {T : TypeId} (h : Bx w b c T) : ∀ i, w.frozen? ⟨b, i, none⟩ = false := fun i => by
  unfold Bx at h; unfold World.frozen?; simp only [h]; simp
theorem Bx.of_block {w w' : World} {b : Nat} {c : Array Value} {T : TypeId} (h : Bx w b c T) (e : w'.heap[b]? = w.heap[b]?) : Bx w' b c T := e.trans h
theorem Bx.below {w w' : World} {b : Nat} {c : Array Value} {T : TypeId} (h : Bx w b c T) (hb : Below w.heap.size w w') : Bx w' b c T := h.of_block (hb.block b h.lt)
theorem Bx.belowAt {B : Nat} {w w' : World} {b : Nat} {c : Array Value} {T : TypeId} (h : Bx w b c T) (hb : Below B w w') (hB : b < B) : Bx w' b c T := h.of_block (hb.block b hB)
theorem Bx.alloc {w : World} {b : Nat} {c : Array Value} {T : TypeId} (h : Bx w b c T) {o : Obj} : Bx (w.alloc o) b c T := h.of_block (Below.heap_alloc _ _ _ h.lt)
theorem Bx.new {w : World} {c : Array Value} {T : TypeId} : Bx (w.alloc (.cells c T)) w.heap.size c T := (Go.MapKept.heap_alloc w _).1
theorem Bx.drew {w : World} {b : Nat} {c : Array Value} {T : TypeId} (h : Bx w b c T) : Bx w.drew b c T := h
theorem Bx.drewN {w : World} {b : Nat} {c : Array Value} {T : TypeId} (h : Bx w b c T) {n : Nat} : Bx (w.drewN n) b c T := h
theorem Bx.set {w : World} {b : Nat} {c : Array Value} {T : TypeId} (h : Bx w b c T) {i : Nat} {v : Value} : Bx (w.setCell ⟨b, i, none⟩ v) b (c.setIfInBounds i v) T := by
  unfold Bx at h ⊢
  simp only [World.setCell, Array.getElem?_modify, h]
  simp
theorem Bx.other {w : World} {b : Nat} {c : Array Value} {T : TypeId} (h : Bx w b c T) {a : Addr} {v : Value} (hne : b ≠ a.block) : Bx (w.setCell a v) b c T := h.of_block (Below.heap_setCell _ _ _ _ hne)
theorem size_setCell (w : World) (a : Addr) (v : Value) : (w.setCell a v).heap.size = w.heap.size := by simp [World.setCell]
/-- A store into a block of the call's own. -/
theorem bset {w a : World} (h : Below w.heap.size w a) {p : Addr} {v : Value} (hp : w.heap.size ≤ p.block) : Below w.heap.size w (a.setCell p v) := h.setCell hp v
/-- Only what lies in block b may have turned, and new blocks. -/
structure But (b : Nat) (w w' : World) : Prop where
  os : w'.os = w.os
  tape : w'.tape = w.tape
  output : w'.output = w.output
  size : w.heap.size ≤ w'.heap.size
  block : ∀ k, k < w.heap.size → k ≠ b → w'.heap[k]? = w.heap[k]?
end Go.Proofs.YtfkfdffhajokkaaGreatDoor
