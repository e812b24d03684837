/- Laws of the walk for a list that a call itself appends to, one element at a time; conditions: none. -/
import Derived.Test.YtfkfdffhajokkaaGreatDoorA06
import Derived.Test.YtfkfdffhajokkaaGreatDoorA07
import Derived.Deep.LoopGhost
namespace Go.Proofs.YtfkfdffhajokkaaGreatDoor
open Go.RowKit X
/-- 'append(xs, x)' of one element that was just laid into a block of its own. -/
theorem wpList_app1 {ops : Array Oper} {rest : List Oper} {o : Oper} {a : Act} {Q : Exit → Act → World → Prop} {w : World}
    (hgd : o.guard = none) (s x : Operand) (t : TypeId) (ho : o.op = .call { callee := .builtin .append, args := #[s, x], argTypes := #[t, t] })
    (base : Nat) (e : TypeId) (z : Value) (size bytes : Nat) (ht : Tryz.prog.underlying t = some (.slice e)) (hinf : (Tryz.prog.info? e).map (fun i => (i.zero, i.size, i.bytes)) = some (some z, size, bytes))
    (hzs : z.cells.size = size) (hsz : 0 < size)
    (v : Value) (n : Nat) (xs : List Value) (hs : a.eval s = v) (hown : w.ownsRow base e size v n xs)
    (g c : Nat) (news : List Value) (hx : a.eval x = .slice (some ⟨g, 0, none⟩) 1 c) (hl : news.length = size) (hnews : ∀ j, j < size → w.cell? ⟨g, j, none⟩ = news[j]?) (h1 : ∀ u ∈ news, u.oneCell' = true)
    (h63 : n + 1 ≤ 4294967296) (hbytes : bytes ≤ 4096) (hbase : base ≤ w.heap.size)
    (h : ∀ v' w', w'.ownsRow base e size v' (n + 1) (xs ++ news) → w.grownBy w' v.ownBlock → wpList Tryz.prog ops Q rest (a.put o.dst v') w') : wpList Tryz.prog ops Q (o :: rest) a w := by
  obtain ⟨i, hi, hz0, hz1, hz2⟩ := info_parts hinf
  have hb : (n + 1) * bytes ≤ 4294967296 * 4096 := Nat.mul_le_mul h63 hbytes
  refine wpList_append_own w hgd s x t ho base e i z size bytes ht hi hz0 hz1 hz2 hzs hsz v n xs hs hown ⟨g, 0, none⟩ 1 c news hx (by rw [hl, Nat.one_mul]) (fun j u hj => ?_) h1 (by unfold maxLen; omega) (by omega) hbase (fun v' w' r1 r2 _ => h v' w' r1 r2)
  have hjl : j < news.length := by
    rcases Nat.lt_or_ge j news.length with hh | hh
    · exact hh
    · rw [List.getElem?_eq_none hh] at hj; cases hj
  have := hnews j (by omega)
  rw [hj] at this
  unfold Addr.add
  by_cases h0 : j = 0
  · subst h0; simpa using this
  · rw [if_neg h0]; simpa using this
theorem bgrown {w a b : World} {v : Value} {base n : Nat} {e : TypeId} {size : Nat} {xs : List Value} (h : Below w.heap.size w a) (ho : a.ownsRow base e size v n xs) (hb : w.heap.size ≤ base) (hg : a.grownBy b v.ownBlock) : Below w.heap.size w b :=
  h.grown hg h.size (fun k hk => by have := (ho.lt k hk).1; omega)
/-- A list of texts in memory: a row of its own, or none. -/
def Own (w : World) (base : Nat) (e : TypeId) (size : Nat) (v : Value) (n : Nat) (xs : List Value) : Prop := w.ownsRow base e size v n xs
theorem ownsRow_of_block {w w' : World} {base : Nat} {e : TypeId} {size : Nat} {v : Value} {n : Nat} {xs : List Value} (h : w.ownsRow base e size v n xs) (hb : ∀ k, v.ownBlock = some k → w'.heap[k]? = w.heap[k]?) : w'.ownsRow base e size v n xs := by
  obtain ⟨h1, h2⟩ := h
  refine ⟨h1, ?_⟩
  rcases h2 with h2 | ⟨g, cap, cur, rfl, hg, hh, r⟩
  · exact .inl h2
  · exact .inr ⟨g, cap, cur, rfl, hg, (hb g rfl).trans hh, r⟩
theorem ownsRow_below {w w' : World} {base : Nat} {e : TypeId} {size : Nat} {v : Value} {n : Nat} {xs : List Value} (h : w.ownsRow base e size v n xs) (hb : Below w.heap.size w w') : w'.ownsRow base e size v n xs :=
  ownsRow_of_block h fun k hk => hb.block k (h.lt k hk).2
theorem ownsRow_setCell {w : World} {base : Nat} {e : TypeId} {size : Nat} {v : Value} {n : Nat} {xs : List Value} (h : w.ownsRow base e size v n xs) {a : Addr} {u : Value} (hne : ∀ k, v.ownBlock = some k → k ≠ a.block) : (w.setCell a u).ownsRow base e size v n xs :=
  ownsRow_of_block h fun k hk => Below.heap_setCell _ _ _ _ (hne k hk)
/-- Where a list that is owned lies, and what its cells hold. -/
theorem ownsRow_at {w : World} {base : Nat} {e : TypeId} {size : Nat} {v : Value} {n : Nat} {xs : List Value} (h : w.ownsRow base e size v n xs) :
    ∃ ad cap, v = .slice ad n cap ∧ (0 < n → ∃ g, ad = some ⟨g, 0, none⟩ ∧ base ≤ g ∧ g < w.heap.size) ∧ n ≤ cap ∧ cap ≤ maxLen := by
  obtain ⟨h1, h2⟩ := h
  rcases h2 with ⟨rfl, rfl⟩ | ⟨g, cap, cur, rfl, hg, hh, hc, hm, r⟩
  · exact ⟨none, 0, rfl, fun h => absurd h (by omega), Nat.le_refl _, by unfold maxLen; omega⟩
  · exact ⟨some ⟨g, 0, none⟩, cap, rfl, fun _ => ⟨g, rfl, hg, (Array.getElem?_eq_some_iff.1 hh).1⟩, hc, hm⟩
theorem info9 : (Tryz.prog.info? 9).map (fun i => (i.zero, i.size, i.bytes)) = some (some (.string ⟨#[]⟩), 1, 16) := by kernel_rfl
def strs (l : List Str) : List Value := l.map fun x => .string (St x)
theorem strs_len (l : List Str) : (strs l).length = l.length := by simp [strs]
theorem strs_app (l : List Str) (x : Str) : strs (l ++ [x]) = strs l ++ [.string (St x)] := by simp [strs]
end Go.Proofs.YtfkfdffhajokkaaGreatDoor
/- What package x86's parting of operands answers; conditions: a text shorter than 2^32 less 15 bytes, the library's variables as they begin. -/
namespace Go.Proofs.YtfkfdffhajokkaaGreatDoor
open Go.RowKit X
set_option linter.unusedSimpArgs false
theorem und29 : Tryz.prog.underlying 29 = some (.slice 9) := u29
theorem take_extract (t : Str) (n : Nat) : (St t).extract 0 n = St (t.take n) := by
  refine ByteArray.ext ?_
  apply Array.ext'
  rw [Lib.extract_data]
  simp
theorem drop_extract (t : Str) (n : Nat) : (St t).extract n (St t).size = St (t.drop n) := by
  refine ByteArray.ext ?_
  apply Array.ext'
  rw [Lib.extract_to_end]
theorem index_room2 (t : Str) (i : Nat) (h : Lib.index t [44, 32] = i) : i + 2 ≤ t.length := by
  have := Lib.index_room t [44, 32] (by omega)
  rw [h] at this
  simp at this
  omega
set_option maxHeartbeats 1000000 in
set_option maxRecDepth 100000 in
theorem split_any (s : ByteArray) (hs : s.size < 4294967281) (w : World) (E : Env w) :
    Calls Tryz.prog 46 #[.string s] w fun e w' => ∃ v, e = .returned v ∧ w'.ownsRow w.heap.size 9 1 v (split (bl s)).length (strs (split (bl s))) ∧ Below w.heap.size w w' := by
  obtain ⟨R, hR⟩ : ∃ R, split (bl s) = R := ⟨_, rfl⟩
  rw [hR]
  unfold split at hR
  go_enter Tryz.func46, Tryz.ntmps46
  go_wp2_with fail
  go_loopg [0, 3] (s.size + 1) (fun q sv v wr => ∃ (t : Str) (l : List Str), sv = .string (St t) ∧ t.length < q ∧ l.length + t.length ≤ s.size ∧ Hid (l ++ splitArgs q t = R) ∧ Below w.heap.size w wr ∧ wr.ownsRow w.heap.size 9 1 v l.length (strs l))
  case atStart => exact ⟨bl s, [], rfl, by rw [bl_len]; omega, by rw [bl_len]; simp, Lib.hid (by rw [List.nil_append, ← bl_len]; exact hR), Below.refl _ _, World.ownsRow_nil _ _ _ _⟩
  case round =>
    obtain ⟨t, l, rfl, hq, hlt, hg, B, O⟩ := hrel
    obtain ⟨q, rfl⟩ : ∃ q, gk = q + 1 := ⟨gk - 1, by omega⟩
    clear hR
    cases t with
    | nil =>
      have hg := Lib.hid (show l = R by rw [← hg.out]; simp [splitArgs])
      go_wp2_with fail
      go_ret
      exact ⟨_, rfl, by rw [← hg.out]; exact O, B⟩
    | cons a0 t0 =>
      obtain ⟨i, hi⟩ : ∃ i, Lib.index (a0 :: t0) [44, 32] = i := ⟨_, rfl⟩
      have hz : (St (a0 :: t0)).size < 4294967281 := by rw [St_size]; omega
      have HI := fun w E => Lib.hid (Index_is (St (a0 :: t0)) [44, 32] i hz hi w E)
      have Er : Env wr := E.below B
      have hl1 : l.length + 1 ≤ 4294967296 := by omega
      by_cases hi0 : i < 0
      · have hg := Lib.hid (show l ++ [a0 :: t0] = R by rw [← hg.out]; simp only [splitArgs, List.isEmpty_cons, hi, if_pos hi0]; rfl)
        clear hi hq
        go_wp2_with fail
        refine ((HI _ Er).out).mono ?_
        rintro e w1 ⟨rfl, rfl⟩
        go_wp2_with (at_builtin; refine wpList_app1 rfl (.tmp 11) (.tmp 13) 29 rfl w.heap.size 9 _ 1 16 und29 info9 rfl (by decide) u3 l.length (strs l) rfl (O.alloc _) wr.heap.size 1 [.string (St (a0 :: t0))] rfl rfl ?c1 ?c2 hl1 (by decide) ?c3 ?_)
        case c1 => intro j hj; obtain rfl : j = 0 := (by omega); exact (Bx.new (w := wr)).cell 0
        case c2 => intro u hu; simp only [List.mem_singleton] at hu; subst hu; rfl
        case c3 => have := B.size; simp; omega
        intro v' w' O' G'
        have B' := bgrown (balloc B _) (O.alloc _) (Nat.le_refl _) G'
        go_wp2_with fail
        go_ret
        refine ⟨_, rfl, ?_, B'⟩
        rw [← hg.out, strs_app, List.length_append]
        exact O'
      · obtain ⟨n, rfl⟩ : ∃ n : Nat, i = n := ⟨i.toNat, by omega⟩
        have hr := index_room2 _ n hi
        clear hi0
        obtain ⟨x, hx⟩ : ∃ x, (a0 :: t0).take n = x := ⟨_, rfl⟩
        obtain ⟨y, hy⟩ : ∃ x, (a0 :: t0).drop (n + 2) = x := ⟨_, rfl⟩
        have hxe := Lib.hid ((take_extract (a0 :: t0) n).trans (by rw [hx]))
        have hye := Lib.hid ((drop_extract (a0 :: t0) (n + 2)).trans (by rw [hy]))
        have hg := Lib.hid (show l ++ (x :: (if y.isEmpty then [[]] else splitArgs q y)) = R by
          rw [← hg.out]; simp only [splitArgs, List.isEmpty_cons, hi, if_neg (show ¬ ((n : Int) < 0) by omega), Int.toNat_natCast, hx, hy]; rfl)
        have hyl : y.length + n + 2 = (a0 :: t0).length := by rw [← hy, List.length_drop]; omega
        have hl2 : l.length + 1 + 1 ≤ 4294967296 := by omega
        clear hi
        go_wp2_with fail
        refine ((HI _ Er).out).mono ?_
        rintro e w1 ⟨rfl, rfl⟩
        have hr2 : n ≤ (St (a0 :: t0)).size := by rw [St_size]; omega
        have hr3 : n + 2 ≤ (St (a0 :: t0)).size := by rw [St_size]; omega
        have hr4 : (n : Int) + 2 ≤ ((St (a0 :: t0)).size : Int) := by omega
        go_wp2_with (at_builtin; refine wpList_app1 rfl (.tmp 15) (.tmp 19) 29 rfl w.heap.size 9 _ 1 16 und29 info9 rfl (by decide) u3 l.length (strs l) rfl (O.alloc _) wr.heap.size 1 [.string ((St (a0 :: t0)).extract 0 n)] rfl rfl ?c1 ?c2 hl1 (by decide) ?c3 ?_)
        case c1 => intro j hj; obtain rfl : j = 0 := (by omega); exact (Bx.new (w := wr)).cell 0
        case c2 => intro u hu; simp only [List.mem_singleton] at hu; subst hu; rfl
        case c3 => have := B.size; simp; omega
        intro v' w' O' G'
        have B' := bgrown (balloc B _) (O.alloc _) (Nat.le_refl _) G'
        rw [hxe.out] at O'
        have hyf : (St (a0 :: t0)).extract (n + 2) (t0.length + 1) = St y := hye.out
        have hye2 := Lib.hid hyf
        cases y with
        | nil =>
          have he : ((St (a0 :: t0)).extract (n + 2) (t0.length + 1)).toList.isEmpty = true := by rw [hyf, ByteArray.toList_eq]; rfl
          clear hyf hye hx hy
          go_wp2_with (at_builtin; refine wpList_app1 rfl (.tmp 27) (.tmp 28) 29 rfl w.heap.size 9 _ 1 16 und29 info9 rfl (by decide) v' (l.length + 1) _ rfl (O'.alloc _) w'.heap.size 1 [.string ⟨#[]⟩] rfl rfl ?c4 ?c5 hl2 (by decide) ?c6 ?_)
          case c4 => intro j hj; obtain rfl : j = 0 := (by omega); exact (Bx.new (w := w')).cell 0
          case c5 => intro u hu; simp only [List.mem_singleton] at hu; subst hu; rfl
          case c6 => have := B'.size; simp; omega
          intro v'' w'' O'' G''
          have B'' := bgrown (balloc B' _) (O'.alloc _) (Nat.le_refl _) G''
          go_wp2_with fail
          go_roundg q
          case measure => omega
          case rel =>
            refine ⟨[], l ++ [x] ++ [[]], by rw [hye2.out], ?_, ?_, Lib.hid ?_, B'', ?_⟩
            · simp only [List.length_cons] at hq; simp; omega
            · simp at hyl hlt ⊢; omega
            · rw [← hg.out]; cases q <;> simp [splitArgs]
            · rw [strs_app, strs_app, List.length_append, List.length_append, List.append_assoc]; exact O''
        | cons y0 y1 =>
          have he : ((St (a0 :: t0)).extract (n + 2) (t0.length + 1)).toList.isEmpty = false := by rw [hyf, ByteArray.toList_eq]; rfl
          clear hyf hye hx hy
          go_wp2_with fail
          go_roundg q
          case measure => omega
          case rel =>
            refine ⟨y0 :: y1, l ++ [x], by rw [hye2.out], ?_, ?_, Lib.hid ?_, B', ?_⟩
            · simp at hyl hq ⊢; omega
            · simp at hyl hlt ⊢; omega
            · rw [← hg.out]; simp
            · rw [strs_app, List.length_append]; exact O'
end Go.Proofs.YtfkfdffhajokkaaGreatDoor
/- What package x86's ways of an instruction answer; conditions: the library's variables and the table of forms as they begin. -/
namespace Go.Proofs.YtfkfdffhajokkaaGreatDoor
open Go.RowKit X
set_option linter.unusedSimpArgs false
theorem cell_below {w w' : World} (hb : Below w.heap.size w w') {a : Addr} {v : Value} (h : w.cell? a = some v) : w'.cell? a = some v := by
  rw [hb.cell (World.block_lt_of_cell? w a h)]; exact h
/-- A list of texts in memory. -/
def StrsAt (w : World) (v : Value) (l : List Str) : Prop :=
  ∃ ad cap, v = .slice ad l.length cap ∧ (0 < l.length → ∃ b o, ad = some ⟨b, o, none⟩ ∧ ∀ i, i < l.length → w.cell? ⟨b, o + i, none⟩ = some (.string (St (l.getD i []))))
theorem StrsAt.below {w w' : World} {v : Value} {l : List Str} (h : StrsAt w v l) (hb : Below w.heap.size w w') : StrsAt w' v l := by
  obtain ⟨ad, cap, rfl, h⟩ := h
  refine ⟨ad, cap, rfl, fun h0 => ?_⟩
  obtain ⟨b, o, rfl, h2⟩ := h h0
  exact ⟨b, o, rfl, fun i hi => cell_below hb (h2 i hi)⟩
/-- A list of lists of texts in memory. -/
def WaysAt (w : World) (v : Value) (l : List (List Str)) : Prop :=
  ∃ ad cap, v = .slice ad l.length cap ∧ (0 < l.length → ∃ b o, ad = some ⟨b, o, none⟩ ∧ ∀ i, i < l.length → ∃ u, w.cell? ⟨b, o + i, none⟩ = some u ∧ StrsAt w u (l.getD i []))
theorem WaysAt.below {w w' : World} {v : Value} {l : List (List Str)} (h : WaysAt w v l) (hb : Below w.heap.size w w') : WaysAt w' v l := by
  obtain ⟨ad, cap, rfl, h⟩ := h
  refine ⟨ad, cap, rfl, fun h0 => ?_⟩
  obtain ⟨b, o, rfl, h2⟩ := h h0
  refine ⟨b, o, rfl, fun i hi => ?_⟩
  obtain ⟨u, hu, hs⟩ := h2 i hi
  exact ⟨u, cell_below hb hu, hs.below hb⟩
/-- The table of forms, as it lies in memory. -/
def FormsAt (w : World) : Prop :=
  ∃ r l, w.cell? ⟨0, 0, none⟩ = some (.map (some r)) ∧ MapAt w r l ∧ KeysOk .string l ∧
    ∀ word : ByteArray, match formsTab.lookup (bl word) with
      | some ws => ∃ v, lookV l (.string word) = some v ∧ WaysAt w v ws
      | none => lookV l (.string word) = none
theorem FormsAt.below {w w' : World} (h : FormsAt w) (hb : Below w.heap.size w w') : FormsAt w' := by
  obtain ⟨r, l, h0, h1, h2, h3⟩ := h
  refine ⟨r, l, cell_below hb h0, h1.below hb, h2, fun word => ?_⟩
  have := h3 word
  split at this
  · obtain ⟨v, hv, hx⟩ := this
    exact ⟨v, hv, hx.below hb⟩
  · exact this
theorem und137 : Tryz.prog.underlying 137 = some (.map 9 115) := by kernel_rfl
theorem zero115 (w : World) : (zeroValue 115).run Tryz.prog w = .ok (.slice none 0 0) w := by kernel_rfl
theorem zero4 (w : World) : (zeroValue 4).run Tryz.prog w = .ok (.bool false) w := by kernel_rfl
theorem und115 : Tryz.prog.underlying 115 = some (.slice 29) := by kernel_rfl
theorem und138 : Tryz.prog.underlying 138 = some (.map 9 4) := u138
theorem und9 : Tryz.prog.underlying 9 = some .string := u9
theorem condMap_look (c : ByteArray) : lookV condMap (.string c) = if conds.contains (bl c) then some (.bool true) else none := by
  have h : ∀ l : List Str, lookV (l.map fun s => (.string ⟨s.toArray⟩, .bool true)) (.string c) = if l.contains (bl c) then some (.bool true) else none := by
    intro l
    induction l with
    | nil => rfl
    | cons x l ih =>
      have e : sameV (.string c) (.string ⟨x.toArray⟩) = (bl c == x) := rfl
      unfold lookV at ih ⊢
      rw [List.map_cons, List.find?_cons, List.contains_cons, e]
      cases (bl c == x)
      · simpa using ih
      · rfl
  exact h conds
theorem condMap_keys : KeysOk .string condMap := by
  intro p hp
  obtain ⟨s, _, rfl⟩ := List.mem_map.1 hp
  exact .str _
theorem ways_one (w : World) (x : Str) : WaysAt ((w.alloc (.cells #[.string (St x)] 9)).alloc (.cells #[.slice (some ⟨w.heap.size, 0, none⟩) 1 1] 29)) (.slice (some ⟨w.heap.size + 1, 0, none⟩) 1 1) [[x]] := by
  have h1 := (Bx.new (w := w) (c := #[.string (St x)]) (T := 9)).alloc (o := .cells #[.slice (some ⟨w.heap.size, 0, none⟩) 1 1] 29)
  have h2 := Bx.new (w := w.alloc (.cells #[.string (St x)] 9)) (c := #[.slice (some ⟨w.heap.size, 0, none⟩) 1 1]) (T := 29)
  rw [World.size_alloc] at h2
  refine ⟨_, _, rfl, fun _ => ⟨_, _, rfl, fun i hi => ?_⟩⟩
  simp only [List.length_singleton] at hi
  obtain rfl : i = 0 := by omega
  refine ⟨_, h2.cell 0, _, _, rfl, fun _ => ⟨_, _, rfl, fun i hi => ?_⟩⟩
  simp only [List.getD_cons_zero, List.length_singleton] at hi
  obtain rfl : i = 0 := by omega
  exact h1.cell 0
theorem lookup_all {α : Type} {P : α → Prop} : ∀ (t : List (Str × α)), (∀ p ∈ t, P p.2) → ∀ {k : Str} {v : α}, t.lookup k = some v → P v
  | [], _, k, v, h => by simp at h
  | p :: t, hp, k, v, h => by
    rw [List.lookup_cons] at h
    split at h
    · cases h; exact hp p (by simp)
    · exact lookup_all t (fun q hq => hp q (by simp [hq])) h
/-- 'm[k]' behind a guard that says yes. -/
theorem wpList_lookG {ops : Array Oper} {rest : List Oper} {o : Oper} {a : Act} {Q : Exit → Act → World → Prop} {w : World}
    (hg : Region.wanted o (yielded ops a.tmps) = true) (m x : Operand) (T : TypeId) (ok : Bool) (hop : o.op = Op.lookup T m x ok)
    (K E : TypeId) (kd : TypeDesc) (ht : Tryz.prog.underlying T = some (.map K E)) (hK : Tryz.prog.underlying K = some kd) (z : Value) (hz : ∀ w, (zeroValue E).run Tryz.prog w = .ok z w)
    (r : Nat) (l : List (Value × Value)) (hm : a.eval m = .map (some r)) (hat : MapAt w r l) (hl : KeysOk kd l) (k : Value) (hx : a.eval x = k) (hk : KeyOk kd k)
    (hQ : wpList Tryz.prog ops Q rest (a.put o.dst (if ok then .tuple #[(lookV l k).getD z, .bool (lookV l k).isSome] else (lookV l k).getD z)) w) :
    wpList Tryz.prog ops Q (o :: rest) a w := by
  refine BigFrame.wpList_want hg fun K' hK' => ?_
  obtain ⟨es, clk, hb, hes, f, hf, hf'⟩ := find_at hat hl hk
  have hrun : (Instr.lookup T (.map (some r)) k ok).run Tryz.prog w = .ok (if ok then .tuple #[(lookV l k).getD z, .bool (lookV l k).isSome] else (lookV l k).getD z) w := by
    unfold Instr.lookup
    rw [← hf']
    simp only [Sem.run_bind, run_underlying ht, Result.andThen, Go.MapKept.run_getObj_map hb, Sem.run_pure, Go.MapKept.run_checkKey hK hk.isKey, Go.MapKept.run_findKey hK hf]
    cases f with
    | none => simp only [Sem.run_bind, hz, Result.andThen, Sem.run_pure]; cases ok <;> rfl
    | some p => simp only [Sem.run_bind, Result.andThen, Sem.run_pure]; cases ok <;> rfl
  unfold Oper.wp
  simp only [execOp, hop, hm, hx, Sem.run_bind, hrun, Result.andThen, Sem.run_pure]
  exact hK' _ _ hQ
set_option maxRecDepth 100000 in
theorem ways_any (s : ByteArray) (w : World) (F : FormsAt w) :
    Calls Tryz.prog 47 #[.string s] w fun e w' => ∃ v, e = .returned v ∧ WaysAt w' v (X.ways (bl s)) ∧ Below w.heap.size w w' := by
  obtain ⟨r, l, h0, h1, h2, h3⟩ := F
  have h3 := h3 s
  cases hw : formsTab.lookup (bl s) with
  | some ws =>
    rw [hw] at h3
    obtain ⟨v, hv, hW⟩ := h3
    have hE : X.ways (bl s) = ws := by unfold X.ways; rw [hw]
    rw [hE]
    have hlen : 0 < ws.length := lookup_all (P := fun ws => 0 < ws.length) formsTab (by decide) hw
    obtain ⟨ad, cap, rfl, hcell⟩ := hW
    obtain ⟨b, o, rfl, hc2⟩ := hcell hlen
    have hneq := fun w => run_neq_slice_nil_any (P := Tryz.prog) w 115 29 (some ⟨b, o, none⟩) ws.length cap 0 0 und115
    have hv := Lib.hid hv
    have hc2 := Lib.hid hc2
    clear hcell hw hE h3 hlen
    go_enter Tryz.func47, Tryz.ntmps47
    go_wp2_with (at_lookup; refine wpList_look rfl (.tmp 8) (.tmp 9) 137 false rfl 9 115 .string und137 und9 _ zero115 r l rfl h1 h2 (.string s) rfl (.str _) ?_; rw [hv.out])
    go_ret
    exact ⟨_, rfl, ⟨_, _, rfl, fun _ => ⟨b, o, rfl, hc2.out⟩⟩, Below.refl _ _⟩
  | none =>
    rw [hw] at h3
    have h3 : lookV l (.string s) = none := h3
    have hneq := fun w => run_neq_slice_nil_any (P := Tryz.prog) w 115 29 none 0 0 0 0 und115
    have hv := Lib.hid h3
    obtain ⟨p1, hp1⟩ : ∃ p, Lib.trimPrefix (bl s) ([115, 101, 116] : Str) = p := ⟨_, rfl⟩
    obtain ⟨b1, hb1⟩ : ∃ p, Lib.hasPrefix (bl s) ([115, 101, 116] : Str) = p := ⟨_, rfl⟩
    obtain ⟨p2, hp2⟩ : ∃ p, Lib.trimPrefix (bl s) ([106] : Str) = p := ⟨_, rfl⟩
    obtain ⟨b2, hb2⟩ : ∃ p, Lib.hasPrefix (bl s) ([106] : Str) = p := ⟨_, rfl⟩
    obtain ⟨c1, hc1⟩ : ∃ p, conds.contains p1 = p := ⟨_, rfl⟩
    obtain ⟨c2, hc2⟩ : ∃ p, conds.contains p2 = p := ⟨_, rfl⟩
    have HA := fun w => Lib.hid (CutPrefix_is s ([115, 101, 116] : Str) p1 b1 hp1 hb1 w)
    have HB := fun w => Lib.hid (CutPrefix_is s ([106] : Str) p2 b2 hp2 hb2 w)
    have hL1 : Hid (lookV condMap (.string (St p1)) = if c1 then some (.bool true) else none) := Lib.hid (by rw [condMap_look, bl_St, hc1])
    have hL2 : Hid (lookV condMap (.string (St p2)) = if c2 then some (.bool true) else none) := Lib.hid (by rw [condMap_look, bl_St, hc2])
    have hE : X.ways (bl s) = if b1 && c1 then [[([98] : Str)]] else if b2 && c2 then [[([76] : Str)]] else [] := by unfold X.ways; rw [hw, hp1, hb1, hp2, hb2, hc1, hc2]
    rw [hE]
    clear hE hw h3 hp1 hb1 hp2 hb2 hc1 hc2
    have key1 : b1 = true → c1 = true → Calls Tryz.prog 47 #[.string s] w fun e w' => ∃ v, e = .returned v ∧ WaysAt w' v [[([98] : Str)]] ∧ Below w.heap.size w w' := by
      rintro rfl rfl
      go_enter Tryz.func47, Tryz.ntmps47
      go_wp2_with (at_lookup; refine wpList_look rfl (.tmp 8) (.tmp 9) 137 false rfl 9 115 .string und137 und9 _ zero115 r l rfl h1 h2 (.string s) rfl (.str _) ?_; rw [hv.out])
      refine ((HA _).out).mono ?_
      rintro e w1 ⟨rfl, rfl⟩
      go_wp2_with fail
      refine (conds_any _).mono ?_
      rintro e w2 ⟨rc, rfl, hat, hbw⟩
      go_wp2_with (at_lookup; refine wpList_lookG (by rfl) (.tmp 21) (.tmp 22) 138 false rfl 9 4 .string und138 und9 _ zero4 rc condMap rfl hat condMap_keys (.string (St p1)) rfl (.str _) ?_; rw [hL1.out])
      go_ret
      exact ⟨_, rfl, ways_one w2 ([98] : Str), by (repeat' (first | with_reducible assumption | with_reducible exact Below.refl _ _ | (with_reducible refine below_drewN ?_ _) | (with_reducible refine Below.drew ?_) | (with_reducible refine balloc ?_ _) | (with_reducible refine Below.setCell ?_ (by first | exact Nat.le_refl _ | (simp; done) | omega | (simp; omega)) _) | (with_reducible refine bstep ?_ (by with_reducible assumption))))⟩
    have key2 : b2 = true → c2 = true → (b1 = true → c1 = false) → Calls Tryz.prog 47 #[.string s] w fun e w' => ∃ v, e = .returned v ∧ WaysAt w' v [[([76] : Str)]] ∧ Below w.heap.size w w' := by
      rintro rfl rfl hbc
      cases b1 with
      | true =>
        obtain rfl := hbc rfl
        clear hbc
        go_enter Tryz.func47, Tryz.ntmps47
        go_wp2_with (at_lookup; refine wpList_look rfl (.tmp 8) (.tmp 9) 137 false rfl 9 115 .string und137 und9 _ zero115 r l rfl h1 h2 (.string s) rfl (.str _) ?_; rw [hv.out])
        refine ((HA _).out).mono ?_
        rintro e w1 ⟨rfl, rfl⟩
        go_wp2_with fail
        refine (conds_any _).mono ?_
        rintro e w2 ⟨rc, rfl, hat, hbw⟩
        go_wp2_with (at_lookup; refine wpList_lookG (by rfl) (.tmp 21) (.tmp 22) 138 false rfl 9 4 .string und138 und9 _ zero4 rc condMap rfl hat condMap_keys (.string (St p1)) rfl (.str _) ?_; rw [hL1.out])
        refine ((HB _).out).mono ?_
        rintro e w1 ⟨rfl, rfl⟩
        go_wp2_with fail
        refine (conds_any _).mono ?_
        rintro e w3 ⟨rc, rfl, hat, hbw2⟩
        go_wp2_with (at_lookup; refine wpList_lookG (by rfl) (.tmp 34) (.tmp 35) 138 false rfl 9 4 .string und138 und9 _ zero4 rc condMap rfl hat condMap_keys (.string (St p2)) rfl (.str _) ?_; rw [hL2.out])
        go_ret
        exact ⟨_, rfl, ways_one w3 ([76] : Str), by (repeat' (first | with_reducible assumption | with_reducible exact Below.refl _ _ | (with_reducible refine below_drewN ?_ _) | (with_reducible refine Below.drew ?_) | (with_reducible refine balloc ?_ _) | (with_reducible refine Below.setCell ?_ (by first | exact Nat.le_refl _ | (simp; done) | omega | (simp; omega)) _) | (with_reducible refine bstep ?_ (by with_reducible assumption))))⟩
      | false =>
        clear hbc
        go_enter Tryz.func47, Tryz.ntmps47
        go_wp2_with (at_lookup; refine wpList_look rfl (.tmp 8) (.tmp 9) 137 false rfl 9 115 .string und137 und9 _ zero115 r l rfl h1 h2 (.string s) rfl (.str _) ?_; rw [hv.out])
        refine ((HA _).out).mono ?_
        rintro e w1 ⟨rfl, rfl⟩
        go_wp2_with fail
        refine ((HB _).out).mono ?_
        rintro e w1 ⟨rfl, rfl⟩
        go_wp2_with fail
        refine (conds_any _).mono ?_
        rintro e w3 ⟨rc, rfl, hat, hbw2⟩
        go_wp2_with (at_lookup; refine wpList_lookG (by rfl) (.tmp 34) (.tmp 35) 138 false rfl 9 4 .string und138 und9 _ zero4 rc condMap rfl hat condMap_keys (.string (St p2)) rfl (.str _) ?_; rw [hL2.out])
        go_ret
        exact ⟨_, rfl, ways_one w3 ([76] : Str), by (repeat' (first | with_reducible assumption | with_reducible exact Below.refl _ _ | (with_reducible refine below_drewN ?_ _) | (with_reducible refine Below.drew ?_) | (with_reducible refine balloc ?_ _) | (with_reducible refine Below.setCell ?_ (by first | exact Nat.le_refl _ | (simp; done) | omega | (simp; omega)) _) | (with_reducible refine bstep ?_ (by with_reducible assumption))))⟩
    have key3 : (b2 = true → c2 = false) → (b1 = true → c1 = false) → Calls Tryz.prog 47 #[.string s] w fun e w' => ∃ v, e = .returned v ∧ WaysAt w' v [] ∧ Below w.heap.size w w' := by
      intro hbd hbc
      cases b1 with
      | true =>
        obtain rfl := hbc rfl
        cases b2 with
        | true =>
          obtain rfl := hbd rfl
          clear hbc hbd
          go_enter Tryz.func47, Tryz.ntmps47
          go_wp2_with (at_lookup; refine wpList_look rfl (.tmp 8) (.tmp 9) 137 false rfl 9 115 .string und137 und9 _ zero115 r l rfl h1 h2 (.string s) rfl (.str _) ?_; rw [hv.out])
          refine ((HA _).out).mono ?_
          rintro e w1 ⟨rfl, rfl⟩
          go_wp2_with fail
          refine (conds_any _).mono ?_
          rintro e w2 ⟨rc, rfl, hat, hbw⟩
          go_wp2_with (at_lookup; refine wpList_lookG (by rfl) (.tmp 21) (.tmp 22) 138 false rfl 9 4 .string und138 und9 _ zero4 rc condMap rfl hat condMap_keys (.string (St p1)) rfl (.str _) ?_; rw [hL1.out])
          refine ((HB _).out).mono ?_
          rintro e w1 ⟨rfl, rfl⟩
          go_wp2_with fail
          refine (conds_any _).mono ?_
          rintro e w3 ⟨rc, rfl, hat, hbw2⟩
          go_wp2_with (at_lookup; refine wpList_lookG (by rfl) (.tmp 34) (.tmp 35) 138 false rfl 9 4 .string und138 und9 _ zero4 rc condMap rfl hat condMap_keys (.string (St p2)) rfl (.str _) ?_; rw [hL2.out])
          go_ret
          exact ⟨_, rfl, ⟨_, _, rfl, fun h => absurd h (by simp)⟩, by (repeat' (first | with_reducible assumption | with_reducible exact Below.refl _ _ | (with_reducible refine below_drewN ?_ _) | (with_reducible refine Below.drew ?_) | (with_reducible refine balloc ?_ _) | (with_reducible refine Below.setCell ?_ (by first | exact Nat.le_refl _ | (simp; done) | omega | (simp; omega)) _) | (with_reducible refine bstep ?_ (by with_reducible assumption))))⟩
        | false =>
          clear hbc hbd
          go_enter Tryz.func47, Tryz.ntmps47
          go_wp2_with (at_lookup; refine wpList_look rfl (.tmp 8) (.tmp 9) 137 false rfl 9 115 .string und137 und9 _ zero115 r l rfl h1 h2 (.string s) rfl (.str _) ?_; rw [hv.out])
          refine ((HA _).out).mono ?_
          rintro e w1 ⟨rfl, rfl⟩
          go_wp2_with fail
          refine (conds_any _).mono ?_
          rintro e w2 ⟨rc, rfl, hat, hbw⟩
          go_wp2_with (at_lookup; refine wpList_lookG (by rfl) (.tmp 21) (.tmp 22) 138 false rfl 9 4 .string und138 und9 _ zero4 rc condMap rfl hat condMap_keys (.string (St p1)) rfl (.str _) ?_; rw [hL1.out])
          refine ((HB _).out).mono ?_
          rintro e w1 ⟨rfl, rfl⟩
          go_wp2_with fail
          go_ret
          exact ⟨_, rfl, ⟨_, _, rfl, fun h => absurd h (by simp)⟩, by (repeat' (first | with_reducible assumption | with_reducible exact Below.refl _ _ | (with_reducible refine below_drewN ?_ _) | (with_reducible refine Below.drew ?_) | (with_reducible refine balloc ?_ _) | (with_reducible refine Below.setCell ?_ (by first | exact Nat.le_refl _ | (simp; done) | omega | (simp; omega)) _) | (with_reducible refine bstep ?_ (by with_reducible assumption))))⟩
      | false =>
        cases b2 with
        | true =>
          obtain rfl := hbd rfl
          clear hbc hbd
          go_enter Tryz.func47, Tryz.ntmps47
          go_wp2_with (at_lookup; refine wpList_look rfl (.tmp 8) (.tmp 9) 137 false rfl 9 115 .string und137 und9 _ zero115 r l rfl h1 h2 (.string s) rfl (.str _) ?_; rw [hv.out])
          refine ((HA _).out).mono ?_
          rintro e w1 ⟨rfl, rfl⟩
          go_wp2_with fail
          refine ((HB _).out).mono ?_
          rintro e w1 ⟨rfl, rfl⟩
          go_wp2_with fail
          refine (conds_any _).mono ?_
          rintro e w3 ⟨rc, rfl, hat, hbw2⟩
          go_wp2_with (at_lookup; refine wpList_lookG (by rfl) (.tmp 34) (.tmp 35) 138 false rfl 9 4 .string und138 und9 _ zero4 rc condMap rfl hat condMap_keys (.string (St p2)) rfl (.str _) ?_; rw [hL2.out])
          go_ret
          exact ⟨_, rfl, ⟨_, _, rfl, fun h => absurd h (by simp)⟩, by (repeat' (first | with_reducible assumption | with_reducible exact Below.refl _ _ | (with_reducible refine below_drewN ?_ _) | (with_reducible refine Below.drew ?_) | (with_reducible refine balloc ?_ _) | (with_reducible refine Below.setCell ?_ (by first | exact Nat.le_refl _ | (simp; done) | omega | (simp; omega)) _) | (with_reducible refine bstep ?_ (by with_reducible assumption))))⟩
        | false =>
          clear hbc hbd
          go_enter Tryz.func47, Tryz.ntmps47
          go_wp2_with (at_lookup; refine wpList_look rfl (.tmp 8) (.tmp 9) 137 false rfl 9 115 .string und137 und9 _ zero115 r l rfl h1 h2 (.string s) rfl (.str _) ?_; rw [hv.out])
          refine ((HA _).out).mono ?_
          rintro e w1 ⟨rfl, rfl⟩
          go_wp2_with fail
          refine ((HB _).out).mono ?_
          rintro e w1 ⟨rfl, rfl⟩
          go_wp2_with fail
          go_ret
          exact ⟨_, rfl, ⟨_, _, rfl, fun h => absurd h (by simp)⟩, by (repeat' (first | with_reducible assumption | with_reducible exact Below.refl _ _ | (with_reducible refine below_drewN ?_ _) | (with_reducible refine Below.drew ?_) | (with_reducible refine balloc ?_ _) | (with_reducible refine Below.setCell ?_ (by first | exact Nat.le_refl _ | (simp; done) | omega | (simp; omega)) _) | (with_reducible refine bstep ?_ (by with_reducible assumption))))⟩
    clear HA HB hL1 hL2 hneq hv
    cases b1 <;> cases c1 <;> cases b2 <;> cases c2 <;> first | exact key1 rfl rfl | exact key2 rfl rfl (by simp) | exact key3 (by simp) (by simp)
end Go.Proofs.YtfkfdffhajokkaaGreatDoor
