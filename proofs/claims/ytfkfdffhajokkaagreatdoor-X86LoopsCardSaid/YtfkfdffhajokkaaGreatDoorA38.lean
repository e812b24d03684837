/- What the row's condition on the listed variables gives the walks: the library's variables and the table of forms as they begin; conditions: the row's own. -/
import Derived.Test.YtfkfdffhajokkaaGreatDoorA11
import Derived.Test.YtfkfdffhajokkaaGreatDoorRows
import Derived.LaidMore
import Derived.Stop.LaidErr
import Derived.Lib.LaidTab
import Derived.Shelf.Vars
import Derived.Maps.Keyed
import Derived.WideKeyElems2
import Derived.MakeChecks
import Derived.Lay
import Derived.Handed
namespace Go.Proofs.YtfkfdffhajokkaaGreatDoor
open Go.RowKit X Go.WideElems Go.ChangeShapes
set_option linter.unusedSimpArgs false
namespace Card
/-- One way, all ways of a word, the whole table as data. -/
def wayD (l : List Str) : DataW Unit := .slice (l.map fun s => .lit (.string s)) []
def formD (ws : List (List Str)) : DataW Unit := .slice (ws.map wayD) []
def formsD : DataW Unit := .map (formsTab.map fun p => (.string p.1, formD p.2))
set_option maxRecDepth 100000 in
theorem forms_is : Rows.laid_spokeshave_x86_forms = formsD := by kernel_rfl
theorem atKey_tab (k : Str) (zd : DataW Unit) : ∀ t : List (Str × List (List Str)), (DataW.map (t.map fun p => (.string p.1, formD p.2))).atKey (.string k) zd = match t.lookup k with | some ws => formD ws | none => zd := by
  intro t
  induction t with
  | nil => rfl
  | cons p t ih =>
    obtain ⟨a, d⟩ := p
    unfold DataW.atKey at ih ⊢
    simp only [List.map_cons, List.find?_cons, List.lookup_cons] at ih ⊢
    have e : Lit.sameKey (.string a) (.string k) = (a == k) := rfl
    rw [e]
    cases hk : (k == a) with
    | true =>
      rw [beq_iff_eq] at hk
      subst hk
      simp
    | false =>
      have : (a == k) = false := by rw [beq_eq_false_iff_ne] at hk ⊢; exact fun h => hk h.symm
      rw [this]
      exact ih
theorem add_at {a : Addr} {w : World} {v : Value} (h : w.cell? a = some v) (i : Nat) : a.add i = ⟨a.block, a.off + i, none⟩ := by
  have hs := World.cell?_spot h
  obtain ⟨b, o, sp⟩ := a
  cases hs
  unfold Addr.add
  split
  · rename_i e; subst e; rfl
  · rfl
theorem c9 : Tryz.prog.cellsOf 9 = 1 := by kernel_rfl
theorem c29 : Tryz.prog.cellsOf 29 = 1 := by kernel_rfl
noncomputable abbrev Tr (W : World) (n : Nat) (t : TypeId) (cs : List Value) : Option (DataW Unit × List MemPlace) := DataW.trod (fun _ => ()) Tryz.prog W 0 (fun _ => true) false n t cs
theorem strs_of {W : World} {n : Nat} {u : Value} {l : List Str} {q : List MemPlace} (h : Tr W n 29 [u] = some (wayD l, q)) : StrsAt W u l := by
  obtain ⟨a, cap, hc, _, hx⟩ := open_row u29 c9 h
  simp only [List.cons.injEq, and_true] at hc
  subst hc
  rw [List.length_map]
  refine ⟨_, _, rfl, fun h0 => ?_⟩
  have get : ∀ i, i < l.length → W.cell? (a.add i) = some (.string (St (l.getD i []))) := fun i hi => by
    obtain ⟨v, m, q, hv, ht⟩ := hx i (.lit (.string (l.getD i []))) (by simp [List.getD, hi])
    obtain ⟨s, hs, he, _⟩ := DataW.trod_string und9 ht
    simp only [List.cons.injEq, and_true] at hs
    subst hs
    rw [hv]
    simp only [Prod.mk.injEq, DataW.lit.injEq, Lit.string.injEq] at he
    rw [he.1]
  have g0 := get 0 h0
  have e0 : a.add 0 = a := by simp [Addr.add]
  rw [e0] at g0
  refine ⟨a.block, a.off, ?_, fun i hi => ?_⟩
  · rw [← e0, add_at g0 0]
  · rw [← add_at g0 i]; exact get i hi
theorem ways_of {W : World} {n : Nat} {u : Value} {l : List (List Str)} {q : List MemPlace} (h : Tr W n 115 [u] = some (formD l, q)) : WaysAt W u l := by
  obtain ⟨a, cap, hc, _, hx⟩ := open_row und115 c29 h
  simp only [List.cons.injEq, and_true] at hc
  subst hc
  rw [List.length_map]
  refine ⟨_, _, rfl, fun h0 => ?_⟩
  have get : ∀ i, i < l.length → ∃ u, W.cell? (a.add i) = some u ∧ StrsAt W u (l.getD i []) := fun i hi => by
    obtain ⟨v, m, q, hv, ht⟩ := hx i (wayD (l.getD i [])) (by simp [List.getD, hi])
    exact ⟨v, hv, strs_of ht⟩
  obtain ⟨u0, g0, _⟩ := get 0 h0
  have e0 : a.add 0 = a := by simp [Addr.add]
  rw [e0] at g0
  refine ⟨a.block, a.off, ?_, fun i hi => ?_⟩
  · rw [← e0, add_at g0 0]
  · rw [← add_at g0 i]; exact get i hi
theorem gForms : Tryz.prog.globalNamed "spokeshave/x86.forms" = some 0 := by kernel_rfl
theorem tForms : (Tryz.prog.globals[0]?).map (·.type) = some 137 := by kernel_rfl
theorem same_key {word : ByteArray} {v : Value} (h : sameV (.string word) v = true) : v = .string word := by
  cases v <;> simp only [sameV] at h <;> try cases h
  rw [← bytes_bl, Go.MapKept.bytes_beq] at h
  rw [h]
theorem key_str {v : Value} {y : Lit} (h : keyOf Tryz.prog 9 v = some y) : ∃ s, v = .string s ∧ y = .string (bl s) := by
  rw [keyOf_string und9] at h
  unfold mapKey at h
  rw [und9] at h
  cases v <;> simp at h
  exact ⟨_, rfl, h.2.symm⟩
theorem forms_of {W : World} {r : List (String × DataW Unit)} (h : laidMet Tryz.prog (("spokeshave/x86.forms", formsD) :: r) W) : FormsAt W := by
  obtain ⟨ps, ⟨g0, t0, cs0, f0, p0, q0, hg0, ht0, hv0, hd0, _, _⟩, _, _⟩ := h
  obtain rfl := Option.some.inj (gForms.symm.trans hg0)
  obtain rfl := Option.some.inj (tForms.symm.trans ht0)
  rcases open_map und137 hd0 with ⟨_, hx⟩ | ⟨bm, es, clock, m, rfl, hcs, hb, _, F, hx⟩
  · simp [formsD] at hx
  simp only [Prod.mk.injEq] at hx
  have hcell : W.cell? ⟨0, 0, none⟩ = some (.map (some bm)) := by
    have := World.var?_cell hg0 hv0 0
    rw [Array.eq_one_of_toList hcs] at this
    simpa using this
  have K : Maps.Keyed Tryz.prog 9 := Maps.string_keyed und9
  refine ⟨bm, _, hcell, ⟨es, clock, hb, rfl⟩, fun p hp => ?_, fun word => ?_⟩
  · obtain ⟨e, he, rfl⟩ := List.mem_map.1 hp
    obtain ⟨y, hy⟩ := F.reads e he
    obtain ⟨s, hs, _⟩ := key_str (rd_key hy)
    show KeyOk .string e.key
    rw [hs]
    exact .str _
  · have hat := WideShapes.atKey_sorted (es.toList.map (rg Tryz.prog 9 (elemAt (fun _ => ()) Tryz.prog W 0 (fun _ => true) false m 115))) (Maps.fit_rising K F) (.string (bl word)) trivial
    rw [← hx.1] at hat
    have tab := fun zd => atKey_tab (bl word) zd formsTab
    have no : lookV (es.toList.map fun e => (e.key, e.val)) (.string word) = none → formsTab.lookup (bl word) = none := fun hn => by
      have h2 := hat.1 (fun p hp e1 => by
        obtain ⟨x, hx, rfl⟩ := List.mem_map.1 hp
        obtain ⟨y, hy⟩ := F.reads x hx
        rw [rg_of hy] at e1
        obtain ⟨s, hs, he⟩ := key_str (rd_key hy)
        rw [e1] at he
        simp only [Lit.string.injEq] at he
        simp only [lookV, Option.map_eq_none_iff, List.find?_eq_none] at hn
        have := hn (x.key, x.val) (List.mem_map.2 ⟨x, hx, rfl⟩)
        rw [hs] at this
        simp [sameV, he] at this) .nil
      have h3 : formsD.atKey (.string (bl word)) .nil = _ := tab .nil
      rw [h2] at h3
      cases hl : formsTab.lookup (bl word) with
      | none => rfl
      | some ws => rw [hl] at h3; cases h3
    have yes : ∀ v, lookV (es.toList.map fun e => (e.key, e.val)) (.string word) = some v → ∃ ws, formsTab.lookup (bl word) = some ws ∧ WaysAt W v ws := fun v hv => by
      simp only [lookV, Option.map_eq_some_iff] at hv
      obtain ⟨p, hp, rfl⟩ := hv
      obtain ⟨x, hx, hxp⟩ := List.mem_map.1 (List.mem_of_find?_eq_some hp)
      have hk := same_key (List.find?_some (p := fun (p : Value × Value) => sameV (.string word) p.1) hp)
      subst hxp
      obtain ⟨y, hy⟩ := F.reads x hx
      obtain ⟨s, hs, he⟩ := key_str (rd_key hy)
      simp only at hk
      rw [hk] at hs
      cases hs
      have h2 := hat.2 _ (List.mem_map.2 ⟨x, hx, rfl⟩) (by rw [rg_of hy]; exact he)
      rw [rg_of hy] at h2
      obtain ⟨z, hz, hyz⟩ := rd_val hy
      cases hl : formsTab.lookup (bl word) with
      | none =>
        exfalso
        have a1 : formsD.atKey (.string (bl word)) .nil = _ := tab .nil
        have a2 : formsD.atKey (.string (bl word)) (.lit (.bool true)) = _ := tab (.lit (.bool true))
        rw [hl, h2] at a1 a2
        rw [a1] at a2
        cases a2
      | some ws =>
        refine ⟨ws, rfl, ?_⟩
        have a1 : formsD.atKey (.string (bl word)) .nil = _ := tab .nil
        rw [hl, h2, hyz] at a1
        obtain ⟨z1, z2⟩ := z
        simp only at a1
        subst a1
        unfold elemAt at hz
        split at hz
        · rename_i hf
          obtain ⟨k, v, born⟩ := x
          cases v <;> first | exact ways_of (q := z2) hz | (simp [Value.formed, und115] at hf)
        · cases hz
    cases hl : lookV (es.toList.map fun e => (e.key, e.val)) (.string word) with
    | none => rw [no hl]; 
    | some v =>
      obtain ⟨ws, h1, h2⟩ := yes v hl
      rw [h1]
      exact ⟨v, rfl, h2⟩
/-- THE CONDITION OF THE FOUR ROWS. -/
def laid4 : List (String × DataW Unit) := Rows.x86WordsRow.laid
theorem gSyn : Tryz.prog.globalNamed "strconv.ErrSyntax" = some 2 := by kernel_rfl
theorem gRng : Tryz.prog.globalNamed "strconv.ErrRange" = some 3 := by kernel_rfl
theorem tSyn : (Tryz.prog.globals[2]?).map (·.type) = some 106 := by kernel_rfl
theorem tRng : (Tryz.prog.globals[3]?).map (·.type) = some 106 := by kernel_rfl
theorem gPow : Tryz.prog.globalNamed "internal/strconv.uint64pow10" = some 6 := by kernel_rfl
theorem tPow : (Tryz.prog.globals[6]?).map (·.type) = some 211 := by kernel_rfl
theorem und106 : ∃ ms, Tryz.prog.underlying 106 = some (.interface ms) := by
  have h : (match Tryz.prog.underlying 106 with | some (.interface _) => true | _ => false) = true := by kernel_rfl
  generalize Tryz.prog.underlying 106 = d at h ⊢
  split at h
  · exact ⟨_, rfl⟩
  · cases h
theorem und207 : Tryz.prog.underlying 207 = some (.pointer 209) := by kernel_rfl
theorem und209 : ∃ f : Field, Tryz.prog.underlying 209 = some (.struct #[f]) ∧ f.type = 9 ∧ f.offset = 0 := by
  have h : (match Tryz.prog.underlying 209 with | some (.struct ⟨[f]⟩) => f.type == 9 && f.offset == 0 | _ => false) = true := by kernel_rfl
  generalize Tryz.prog.underlying 209 = d at h ⊢
  split at h
  · rw [Bool.and_eq_true, beq_iff_eq, beq_iff_eq] at h
    exact ⟨_, rfl, h⟩
  · cases h
theorem c209 : Tryz.prog.cellsOf 209 = 1 := by kernel_rfl
theorem und211 : Tryz.prog.underlying 211 = some (.array 20 31) := by kernel_rfl
theorem und31 : Tryz.prog.underlying 31 = some (.int .u64) := by kernel_rfl
theorem c31 : Tryz.prog.cellsOf 31 = 1 := by kernel_rfl
theorem c211 : Tryz.prog.cellsOf 211 = 20 := by kernel_rfl
theorem star : "*" ++ "errors.errorString" = "*errors.errorString" := by decide
theorem row207 (u : TypeId) (h : Tryz.prog.typeName? 3 u = some "*errors.errorString") : u = 207 :=
  typeName_ptr_named (nm := "errors.errorString") (by rw [star]; kernel_rfl) (by kernel_rfl) (by decide) u (by rw [star]; exact h)
theorem env_of {W : World} (hsh : W.ShapedOpen Tryz.prog) (h : laidMetH Tryz.prog laid4 W) (hz : 9 ≤ W.heap.size) : Env W ∧ FormsAt W := by
  rw [MakeChecks.laidMetH_plain _ _ _ (by kernel_rfl)] at h
  have hp := h.tail.tail
  have hr := h.tail.tail.tail.tail
  have hs := hr.tail
  have hf := hs.tail
  have sent : ∀ {n : String} {text : List UInt8} {r : List (String × DataW Unit)} {g : Nat}, laidMet Tryz.prog ((n, .iface "*errors.errorString" (.ptr (.agg [.lit (.string text)]))) :: r) W → Tryz.prog.globalNamed n = some g → (Tryz.prog.globals[g]?).map (·.type) = some 106 →
      ∃ ev, W.cell? ⟨g, 0, none⟩ = some ev ∧ (ev = .nilIface ∨ ∃ te pe, ev = .iface te pe) := fun hL hg ht => by
    obtain ⟨ms, hms⟩ := und106
    obtain ⟨f, h1, h2, h3⟩ := und209
    obtain ⟨a, s, hv, _⟩ := laid_sentinel hL hg ht hms row207 und207 h1 h2 h3 und9 c209 c9
    exact ⟨_, by simpa using World.var?_cell hg hv 0, Or.inr ⟨_, _, rfl⟩⟩
  refine ⟨⟨?_, sent hs gSyn tSyn, sent hr gRng tRng, ?_, hz⟩, ?_⟩
  · exact Go.Proofs.cell_of_shapedOpen_int (P := Tryz.prog) (g := 1) (t := 3) (zero := #[.int .i64 0]) hsh (of_decide_eq_true (by kernel_rfl)) (by kernel_rfl) rfl (by kernel_rfl) (by kernel_rfl) u3
  · exact Lib.tabIs_of_head gPow tPow und211 und31 c31 c211 hp
  · rw [show laid4 = laid4 from rfl] at *
    exact forms_of (forms_is ▸ hf)
end Card
end Go.Proofs.YtfkfdffhajokkaaGreatDoor
/- One start that meets the four rows' condition, and the wrap that hands a contract the condition and the world's shape; conditions: none. -/
namespace Go.Proofs.YtfkfdffhajokkaaGreatDoor.Card
open Go.RowKit Go.ChangeShapes
set_option linter.unusedSimpArgs false
theorem own : ownKnob Tryz.prog.godebug = none := by kernel_rfl
def great : List String := ["unicode/utf8.first"]
noncomputable def start (os : Os) : World := (World.doorLaid Tryz.prog 400 os).layVars Tryz.prog (laid4.filter fun x => great.contains x.1)
noncomputable def others (os : Os) : List Nat := (List.range (World.doorLaid Tryz.prog 400 os).heap.size).filter fun b => b != 4
theorem start_os (os : Os) : (start os).os = os := World.layVars_os _ _ _
set_option maxRecDepth 100000 in
theorem start_shaped (os : Os) (args : Array Value) : ((start os).forCall (fun _ _ => 0) ⟨#[], args, []⟩).Shaped Tryz.prog := World.shaped_of_ZipB (by kernel_rfl) (by kernel_rfl)
set_option maxRecDepth 100000 in
theorem start_met (os : Os) (args : Array Value) : laidMetH Tryz.prog laid4 ((start os).forCall (fun _ _ => 0) ⟨#[], args, []⟩).memory := by
  rw [MakeChecks.laidMetH_plain _ _ _ (by kernel_rfl)]
  exact laidMet_layVars (w0 := World.doorLaid Tryz.prog 400 os) great (others os) (by simp [World.memory, World.forCall, Input.heap]; rfl) (by kernel_rfl) (by kernel_rfl) (LaidIn.of_run _ 8 (by kernel_rfl) (by kernel_rfl) (by kernel_rfl) (by kernel_rfl))
end Go.Proofs.YtfkfdffhajokkaaGreatDoor.Card
