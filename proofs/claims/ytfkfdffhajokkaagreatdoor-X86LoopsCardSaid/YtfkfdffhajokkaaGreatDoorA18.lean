/- What a code that is read is in memory, and what the reading of its lines keeps; conditions: none. -/
import Derived.Test.YtfkfdffhajokkaaGreatDoorA17
import Derived.Deep.RegionLaw
namespace Go.Proofs.YtfkfdffhajokkaaGreatDoor
open Go.RowKit X
set_option linter.unusedSimpArgs false
theorem info75 : (Tryz.prog.info? 75).map (fun i => (i.zero, i.size, i.bytes)) = some (some (.agg #[.string ⟨#[]⟩, .slice none 0 0]), 2, 40) := by kernel_rfl
theorem und65 : Tryz.prog.underlying 65 = some (.slice 75) := by kernel_rfl
/-- 'append(xs, x)' of one element that was just laid into a block of its own, as one step of a region that draws its order. -/
theorem step_app1 {ops : Array Oper} {o : Oper} {a : Act} {w : World} {K : Act → World → Prop} {Q : Exit → Act → World → Prop} {E : Prop}
    (hgd : o.guard = none) (s x : Operand) (t : TypeId) (ho : o.op = .call { callee := .builtin .append, args := #[s, x], argTypes := #[t, t] })
    (base : Nat) (e : TypeId) (z : Value) (size bytes : Nat) (ht : Tryz.prog.underlying t = some (.slice e)) (hinf : (Tryz.prog.info? e).map (fun i => (i.zero, i.size, i.bytes)) = some (some z, size, bytes))
    (hzs : z.cells.size = size) (hsz : 0 < size)
    (v : Value) (n : Nat) (xs : List Value) (hs : a.eval s = v) (hown : w.ownsRow base e size v n xs)
    (g c : Nat) (news : List Value) (hx : a.eval x = .slice (some ⟨g, 0, none⟩) 1 c) (hl : news.length = size) (hnews : ∀ j, j < size → w.cell? ⟨g, j, none⟩ = news[j]?) (h1 : ∀ u ∈ news, u.oneCell' = true)
    (h63 : n + 1 ≤ 4294967296) (hbytes : bytes ≤ 4096) (hbase : base ≤ w.heap.size)
    (hK : ∀ v' w', w'.ownsRow base e size v' (n + 1) (xs ++ news) → w.grownBy w' v.ownBlock → K (a.put o.dst v') w') :
    if Region.wanted o (yielded ops a.tmps) = true then Oper.wp Tryz.prog o a w K Q else E := by
  have hw : Region.wanted o (yielded ops a.tmps) = true := by simp [Region.wanted, hgd]
  rw [if_pos hw]
  obtain ⟨i, hi, hz0, hz1, hz2⟩ := info_parts hinf
  have hb : (n + 1) * bytes ≤ 4294967296 * 4096 := Nat.mul_le_mul h63 hbytes
  obtain ⟨v', w', hrun, r1, r2, _⟩ := run_append_own (P := Tryz.prog) w base t o.type e i z size bytes ht hi hz0 hz1 hz2 hzs hsz v n xs hown ⟨g, 0, none⟩ 1 c news (by rw [hl, Nat.one_mul]) (fun j u hj => by
    have hjl : j < news.length := by
      rcases Nat.lt_or_ge j news.length with hh | hh
      · exact hh
      · rw [List.getElem?_eq_none hh] at hj; cases hj
    have := hnews j (by omega)
    rw [hj] at this
    unfold Addr.add
    by_cases h0 : j = 0
    · subst h0; simpa using this
    · rw [if_neg h0]; simpa using this) h1 (by unfold maxLen; omega) (by omega) hbase
  unfold Oper.wp
  simp [execOp, ho, resolve, invoke, builtin, hs, hx, hrun, Result.andThen]
  exact hK v' w' r1 r2
/-- Blocks of cells of two types are two. -/
theorem Bx.ne {w : World} {a b : Nat} {c c' : Array Value} {T T' : TypeId} (h : Bx w a c T) (h' : Bx w b c' T') (hT : T ≠ T') : a ≠ b := by
  rintro rfl
  unfold Bx at h h'
  rw [h] at h'
  cases h'
  exact hT rfl
theorem Bx.ne_row {w : World} {a base n size : Nat} {c : Array Value} {T e : TypeId} {v : Value} {xs : List Value} (h : Bx w a c T) (ho : w.ownsRow base e size v n xs) (hT : T ≠ e) : ∀ k, v.ownBlock = some k → k ≠ a := by
  rintro k hk rfl
  obtain ⟨_, h2⟩ := ho
  rcases h2 with ⟨rfl, _⟩ | ⟨g, cap, cur, rfl, _, hh, _⟩
  · cases hk
  · cases hk
    exact Bx.ne h (show Bx w g cur e from hh) hT rfl
theorem row_ne_row {w : World} {base base' n n' size size' : Nat} {e e' : TypeId} {v v' : Value} {xs xs' : List Value} (ho : w.ownsRow base e size v n xs) (ho' : w.ownsRow base' e' size' v' n' xs') (hT : e ≠ e') : ∀ k, v.ownBlock = some k → v'.ownBlock ≠ some k := by
  intro k hk hk'
  obtain ⟨_, h2⟩ := ho
  rcases h2 with ⟨rfl, _⟩ | ⟨g, cap, cur, rfl, _, hh, _⟩
  · cases hk
  · cases hk
    exact Bx.ne_row (show Bx w g cur e from hh) ho' hT g hk' rfl
theorem row_ne_map {w : World} {base n size r : Nat} {e : TypeId} {v : Value} {xs : List Value} {l : List (Value × Value)} (ho : w.ownsRow base e size v n xs) (m : MapAt w r l) : v.ownBlock ≠ some r := by
  intro hk
  obtain ⟨_, h2⟩ := ho
  rcases h2 with ⟨rfl, _⟩ | ⟨g, cap, cur, rfl, _, hh, _⟩
  · cases hk
  · cases hk
    exact Bx.ne_map (show Bx w g cur e from hh) m rfl
/-- The lines of a code in memory: words, and rows of operands. -/
def LinesAt (w : World) (B : Nat) (xs : List Value) (ls : List Ln) : Prop :=
  xs.length = ls.length * 2 ∧ ∀ i, i < ls.length → xs[2 * i]? = some (.string (St (ls.getD i ⟨[], []⟩).word)) ∧
    ∃ v, xs[2 * i + 1]? = some v ∧ w.ownsRow B 118 7 v (ls.getD i ⟨[], []⟩).ops.length (opsFlat (ls.getD i ⟨[], []⟩).ops)
theorem LinesAt.nil (w : World) (B : Nat) : LinesAt w B [] [] := ⟨rfl, fun i h => by simp at h⟩
theorem LinesAt.snoc {w : World} {B : Nat} {xs : List Value} {ls : List Ln} (h : LinesAt w B xs ls) (l : Ln) {v : Value} (ho : w.ownsRow B 118 7 v l.ops.length (opsFlat l.ops)) : LinesAt w B (xs ++ [.string (St l.word), v]) (ls ++ [l]) := by
  obtain ⟨h1, h2⟩ := h
  refine ⟨by simp [h1]; omega, fun i hi => ?_⟩
  simp only [List.length_append, List.length_singleton] at hi
  by_cases hlt : i < ls.length
  · obtain ⟨e1, v', e2, e3⟩ := h2 i hlt
    have hg : (ls ++ [l]).getD i ⟨[], []⟩ = ls.getD i ⟨[], []⟩ := by simp [List.getD_eq_getElem?_getD, List.getElem?_append_left hlt]
    rw [hg]
    refine ⟨by rw [List.getElem?_append_left (by omega)]; exact e1, v', by rw [List.getElem?_append_left (by omega)]; exact e2, e3⟩
  · obtain rfl : i = ls.length := by omega
    have hg : (ls ++ [l]).getD ls.length ⟨[], []⟩ = l := by simp [List.getD_eq_getElem?_getD]
    rw [hg]
    refine ⟨?_, v, ?_, ho⟩
    · rw [List.getElem?_append_right (by omega), show 2 * ls.length - xs.length = 0 by omega]; rfl
    · rw [List.getElem?_append_right (by omega), show 2 * ls.length + 1 - xs.length = 1 by omega]; rfl
theorem LinesAt.of_blocks {w w' : World} {B : Nat} {xs : List Value} {ls : List Ln} (h : LinesAt w B xs ls) (hb : ∀ k c, Bx w k c 118 → w'.heap[k]? = w.heap[k]?) : LinesAt w' B xs ls := by
  refine ⟨h.1, fun i hi => ?_⟩
  obtain ⟨e1, v', e2, e3⟩ := h.2 i hi
  refine ⟨e1, v', e2, ?_⟩
  obtain ⟨h1, h2⟩ := e3
  refine ⟨h1, ?_⟩
  rcases h2 with h2 | ⟨g, cap, cur, hv, hg, hh, r⟩
  · exact .inl h2
  · exact .inr ⟨g, cap, cur, hv, hg, (hb g cur hh).trans hh, r⟩
theorem LinesAt.below {w w' : World} {B : Nat} {xs : List Value} {ls : List Ln} (h : LinesAt w B xs ls) (hb : Below w.heap.size w w') : LinesAt w' B xs ls := h.of_blocks fun k _ hk => hb.block k hk.lt
/-- A code in memory, all its blocks from B on. -/
structure CodeAt (w : World) (B p : Nat) (C : Cd) : Prop where
  lo : B ≤ p
  parts : ∃ vl xs r1 r2 d vs, Bx w p #[.string (St C.text), vl, .map (some r1), .map (some r2), .slice (some ⟨d, 0, none⟩) C.data.length C.data.length, vs] 68 ∧
    w.ownsRow B 75 2 vl C.lines.length xs ∧ LinesAt w B xs C.lines ∧ MapAt w r1 (labV C.labels) ∧ MapAt w r2 (varV C.vars) ∧ Bx w d (byteV C.data) 5 ∧ w.ownsRow B 110 2 vs C.spans.length (spanFlat C.spans) ∧ B ≤ r1 ∧ B ≤ r2 ∧ B ≤ d
/-- Where the reading of the lines stands: in world wr, the call having begun in w. -/
structure RAt (w wr : World) (e0 p r1 r2 d bL cap : Nat) (text : ByteArray) (g : Gt) (all : List Str) (n : Nat) (vs vl : Value) (xs : List Value) (ls : List Ln) (data : List UInt8) : Prop where
  below : Below w.heap.size w wr
  err : Bx wr e0 #[.int .i64 0, .int .i64 0] 38
  box : Bx wr p #[.string text, vl, .map (some r1), .map (some r2), .slice (some ⟨d, 0, none⟩) n n, vs] 68
  lab : MapAt wr r1 (labV g.labels)
  var : MapAt wr r2 (varV g.vars)
  dat : Bx wr d (byteV data) 5
  row : wr.ownsRow w.heap.size 110 2 vs g.spans.length (spanFlat g.spans)
  lines : wr.ownsRow w.heap.size 75 2 vl ls.length xs
  lat : LinesAt wr w.heap.size xs ls
  strs : Bx wr bL (strCells all) 9
  lo : w.heap.size ≤ p ∧ w.heap.size ≤ r1 ∧ w.heap.size ≤ r2 ∧ w.heap.size ≤ d ∧ w.heap.size ≤ e0
section
variable {w wr : World} {e0 p r1 r2 d bL cap : Nat} {text : ByteArray} {g : Gt} {all : List Str} {n : Nat} {vs vl : Value} {xs : List Value} {ls : List Ln} {data : List UInt8}
theorem RAt.names (h : RAt w wr e0 p r1 r2 d bL cap text g all n vs vl xs ls data) : Names wr p g.labels g.vars :=
  ⟨r1, r2, by rw [h.box.cell]; rfl, h.lab, by rw [h.box.cell]; rfl, h.var⟩
theorem RAt.on (h : RAt w wr e0 p r1 r2 d bL cap text g all n vs vl xs ls data) {w2 : World} (hb : Below wr.heap.size wr w2) : RAt w w2 e0 p r1 r2 d bL cap text g all n vs vl xs ls data :=
  ⟨bstep h.below hb, h.err.below hb, h.box.below hb, h.lab.below hb, h.var.below hb, h.dat.below hb, ownsRow_below h.row hb, ownsRow_below h.lines hb, h.lat.below hb, h.strs.below hb, h.lo⟩
theorem RAt.laid (h : RAt w wr e0 p r1 r2 d bL cap text g all n vs vl xs ls data) {w2 : World} {data2 : List UInt8} (hd : Bx w2 d (byteV data2) 5) (hb : But d wr w2) : RAt w w2 e0 p r1 r2 d bL cap text g all n vs vl xs ls data2 := by
  have b : ∀ k, k < wr.heap.size → k ≠ d → w2.heap[k]? = wr.heap[k]? := hb.block
  refine ⟨Below.kp h.below (Kp.of_but (S := [d]) hb (by simp)) (by intro k hk; simp only [List.mem_singleton] at hk; subst hk; exact h.lo.2.2.2.1) h.below.size, h.err.of_block (b _ h.err.lt (h.err.ne h.dat (by decide))), h.box.of_block (b _ h.box.lt (h.box.ne h.dat (by decide))),
    h.lab.of_block (b _ h.lab.lt (h.dat.ne_map h.lab).symm), h.var.of_block (b _ h.var.lt (h.dat.ne_map h.var).symm), hd,
    ownsRow_of_block h.row fun k hk => b k (h.row.lt k hk).2 (h.dat.ne_row h.row (by decide) k hk), ownsRow_of_block h.lines fun k hk => b k (h.lines.lt k hk).2 (h.dat.ne_row h.lines (by decide) k hk),
    h.lat.of_blocks fun k _ hk => b k hk.lt (hk.ne h.dat (by decide)), h.strs.of_block (b _ h.strs.lt (h.strs.ne h.dat (by decide))), h.lo⟩
/-- One line more. -/
theorem RAt.more (h : RAt w wr e0 p r1 r2 d bL cap text g all n vs vl xs ls data) (l : Ln) {vo v' : Value} {w2 : World} (hvo : wr.ownsRow w.heap.size 118 7 vo l.ops.length (opsFlat l.ops)) (O : w2.ownsRow w.heap.size 75 2 v' (ls.length + 1) (xs ++ [.string (St l.word), vo]))
    (G : wr.grownBy w2 vl.ownBlock) : RAt w (w2.setCell ⟨p, 1, none⟩ v') e0 p r1 r2 d bL cap text g all n vs v' (xs ++ [.string (St l.word), vo]) (ls ++ [l]) data := by
  have hp : ∀ k, vl.ownBlock = some k → k ≠ p := h.box.ne_row h.lines (by decide)
  have hpl := h.box.lt
  have b : ∀ k, k < wr.heap.size → some k ≠ vl.ownBlock → k ≠ p → (w2.setCell ⟨p, 1, none⟩ v').heap[k]? = wr.heap[k]? := fun k hk hn hkp => (Below.heap_setCell w2 ⟨p, 1, none⟩ v' k hkp).trans (G.block k hk hn)
  have hrow : ∀ k, vl.ownBlock = some k → w.heap.size ≤ k := fun k hk => (h.lines.lt k hk).1
  have nr : ∀ {k c T}, Bx wr k c T → T ≠ 75 → some k ≠ vl.ownBlock := fun hk hT e => hk.ne_row h.lines hT _ e.symm rfl
  have X2 : Bx w2 p #[.string text, vl, .map (some r1), .map (some r2), .slice (some ⟨d, 0, none⟩) n n, vs] 68 := h.box.of_block (G.block p hpl (nr h.box (by decide)))
  refine ⟨Below.setCell (h.below.grown G h.below.size (fun k hk => hrow k hk)) (by simp only; exact h.lo.1) v', h.err.of_block (b _ h.err.lt (nr h.err (by decide)) (h.err.ne h.box (by decide))), X2.set,
    h.lab.of_block (b _ h.lab.lt (fun e => row_ne_map h.lines h.lab e.symm) (h.box.ne_map h.lab).symm), h.var.of_block (b _ h.var.lt (fun e => row_ne_map h.lines h.var e.symm) (h.box.ne_map h.var).symm),
    h.dat.of_block (b _ h.dat.lt (nr h.dat (by decide)) (h.dat.ne h.box (by decide))), ownsRow_of_block h.row fun k hk => b k (h.row.lt k hk).2 (fun e => row_ne_row h.row h.lines (by decide) k hk e.symm) (h.box.ne_row h.row (by decide) k hk),
    ?_, ?_, h.strs.of_block (b _ h.strs.lt (nr h.strs (by decide)) (h.strs.ne h.box (by decide))), h.lo⟩
  · rw [List.length_append]
    refine ownsRow_setCell O ?_
    intro k hk
    exact X2.ne_row O (by decide) k hk
  · have L := h.lat.snoc l hvo
    exact L.of_blocks fun k _ hk => b k hk.lt (nr hk (by decide)) (hk.ne h.box (by decide))
end
end Go.Proofs.YtfkfdffhajokkaaGreatDoor
