/- Where the labels of a code that was read lead; in plain Lean; conditions: none beyond each theorem's own. -/
import Derived.Test.YtfkfdffhajokkaaGreatDoorA33
import Derived.Test.YtfkfdffhajokkaaGreatDoorA34
import Derived.Deep.DeepCutAuto
import Derived.Deep.RegionHeld3
namespace Go.Proofs.YtfkfdffhajokkaaGreatDoor
open Go.RowKit X
set_option linter.unusedSimpArgs false
/-- How many lines are instructions. -/
def nTabs (ls : List Str) : Nat := (ls.filter fun x => Lib.hasPrefix x [9]).length
theorem nTabs_cons (x : Str) (ls : List Str) : nTabs (x :: ls) = (if Lib.hasPrefix x [9] then 1 else 0) + nTabs ls := by
  unfold nTabs
  rw [List.filter_cons]
  split
  · simp; omega
  · simp
theorem gatherName_k (g : Gt) (i : Nat) (n : Str) (s : Int) : (gatherName g i n s).k = g.k := by
  unfold gatherName
  split
  · split <;> rfl
  · split <;> rfl
theorem gatherLine_k (g : Gt) (i : Nat) (x : Str) : (gatherLine g i x).k = g.k + (if Lib.hasPrefix x [9] then 1 else 0) := by
  unfold gatherLine
  split
  · rfl
  · split
    · rw [gatherName_k]; simp
    · split
      · rw [gatherName_k]; simp
      · simp
theorem gather_k : ∀ (ls : List Str) (i : Nat) (g : Gt), (gather i ls g).k = g.k + nTabs ls
  | [], i, g => by simp [gather, nTabs]
  | x :: ls, i, g => by
    unfold gather
    rw [gather_k ls, gatherLine_k, nTabs_cons]
    split <;> simp <;> omega
theorem gatherName_labs {g : Gt} (i : Nat) (n : Str) (s : Int) (h : ∀ n v, g.labels.lookup n = some v → v ≤ g.k) : ∀ n' v, (gatherName g i n s).labels.lookup n' = some v → v ≤ g.k := by
  unfold gatherName
  split
  · split <;> exact h
  · split
    · intro n' v e
      simp only [lookup_snoc] at e
      cases he : g.labels.lookup n' with
      | some u =>
        rw [he] at e
        obtain rfl : u = v := by simpa using e
        exact h n' u he
      | none =>
        rw [he] at e
        simp only [Option.none_or] at e
        split at e
        · cases e; omega
        · cases e
    · exact h
theorem gather_labs : ∀ (ls : List Str) (i : Nat) (g : Gt), (∀ n v, g.labels.lookup n = some v → v ≤ g.k) → ∀ n v, (gather i ls g).labels.lookup n = some v → v ≤ (gather i ls g).k
  | [], i, g, h => h
  | x :: ls, i, g, h => by
    unfold gather
    refine gather_labs ls _ _ ?_
    intro n v e
    rw [gatherLine_k]
    unfold gatherLine at e
    split at e
    · have := h n v e; split <;> omega
    · rename_i hp
      rw [if_neg hp]
      split at e
      · have := gatherName_labs _ _ _ h n v e; omega
      · split at e
        · have := gatherName_labs _ _ _ h n v e; omega
        · have := h n v e; omega
theorem readLine_n {g : Gt} {i : Nat} {r : Rd} (x : Str) (h : (readLine g i r x).bad = false) : (readLine g i r x).lines.length = r.lines.length + (if Lib.hasPrefix x [9] then 1 else 0) := by
  unfold readLine at h ⊢
  simp only at h ⊢
  split
  · rename_i hp
    rw [if_pos hp] at h
    split
    · rename_i e; rw [if_pos e] at h; cases h
    · simp
  · rename_i hp
    rw [if_neg hp] at h
    split
    · rename_i e
      rw [if_pos e] at h
      split
      · rename_i e2; rw [if_pos e2] at h; cases h
      · simp
    · rename_i e
      rw [if_neg e] at h
      split
      · rename_i e2; rw [if_pos e2] at h; cases h
      · simp
theorem readLines_n {g : Gt} : ∀ (ls : List Str) {i : Nat} {r : Rd}, (readLines g i ls r).bad = false → (readLines g i ls r).lines.length = r.lines.length + nTabs ls
  | [], i, r, h => by simp [readLines, nTabs]
  | x :: xs, i, r, h => by
    unfold readLines at h ⊢
    split
    · rename_i e; rw [if_pos e, e] at h; cases h
    · rename_i e
      rw [if_neg e] at h
      rw [readLines_n xs h, readLine_n x (by simpa using e), nTabs_cons]
      omega
theorem read_labs {s : Str} {C : Cd} (h : X.read s = .ok C) : (∀ n v, C.labels.lookup n = some v → v ≤ C.lines.length) ∧ ∃ v, C.labels.lookup ([109, 97, 105, 110] : Str) = some v := by
  rw [read_eq] at h
  obtain ⟨g, hg⟩ : ∃ g, gather 0 (splitOn 10 s).dropLast gather0 = g := ⟨_, rfl⟩
  have G := gather_labs (splitOn 10 s).dropLast 0 gather0 (fun n v h => by simp [gather0] at h)
  have Gk := gather_k (splitOn 10 s).dropLast 0 gather0
  rw [hg] at h G Gk
  obtain ⟨r, hr⟩ : ∃ r, readLines g 0 (splitOn 10 s).dropLast ⟨[], List.replicate (g.at_ - 65536).toNat 0, 0, false⟩ = r := ⟨_, rfl⟩
  have R := readLines_n (g := g) (splitOn 10 s).dropLast (i := 0) (r := ⟨[], List.replicate (g.at_ - 65536).toNat 0, 0, false⟩)
  rw [hr] at h R
  unfold readEnd at h
  split at h
  · cases h
  · rename_i hb
    split at h
    · cases h
    · split at h
      · cases h
      · rename_i hm
        have e : (⟨s, r.lines, g.labels, g.vars, r.data, g.spans⟩ : Cd) = C := Except.ok.inj h
        subst e
        have R := R (by simpa using hb)
        have hk0 : gather0.k = 0 := rfl
        refine ⟨fun n v e => ?_, ?_⟩
        · have := G n v e
          simp only [List.length_nil] at R
          simp only
          omega
        · cases he : g.labels.lookup ([109, 97, 105, 110] : Str) with
          | some v => exact ⟨v, rfl⟩
          | none => rw [he] at hm; exact absurd rfl hm
end Go.Proofs.YtfkfdffhajokkaaGreatDoor
/- How package x86's machine begins; conditions: a code that was read and lies in memory, an input, a stack of 16 bytes to 2^20. -/
namespace Go.Proofs.YtfkfdffhajokkaaGreatDoor
open Go.RowKit X
set_option linter.unusedSimpArgs false
/-- 'append(xs, ys...)', as one step of a region that draws its order. -/
theorem step_appN {o : Oper} {a : Act} {w : World} {K : Act → World → Prop} {Q : Exit → Act → World → Prop}
    (s x : Operand) (t : TypeId) (ho : o.op = .call { callee := .builtin .append, args := #[s, x], argTypes := #[t, t] })
    (base : Nat) (e : TypeId) (z : Value) (size bytes : Nat) (ht : Tryz.prog.underlying t = some (.slice e)) (hinf : (Tryz.prog.info? e).map (fun i => (i.zero, i.size, i.bytes)) = some (some z, size, bytes))
    (hzs : z.cells.size = size) (hsz : 0 < size)
    (v : Value) (n : Nat) (xs : List Value) (hs : a.eval s = v) (hown : w.ownsRow base e size v n xs)
    (g m c : Nat) (news : List Value) (hx : a.eval x = .slice (some ⟨g, 0, none⟩) m c) (hl : news.length = m * size) (hnews : ∀ j, j < m * size → w.cell? ⟨g, j, none⟩ = news[j]?) (h1 : ∀ u ∈ news, u.oneCell' = true)
    (h63 : n + m ≤ 1099511627776) (hbytes : bytes ≤ 64) (hbase : base ≤ w.heap.size)
    (hK : ∀ v' w', w'.ownsRow base e size v' (n + m) (xs ++ news) → w.grownBy w' v.ownBlock → K (a.put o.dst v') w') : Oper.wp Tryz.prog o a w K Q := by
  obtain ⟨i, hi, hz0, hz1, hz2⟩ := info_parts hinf
  have hb : (n + m) * bytes ≤ 1099511627776 * 64 := Nat.mul_le_mul h63 hbytes
  obtain ⟨v', w', hrun, r1, r2, _⟩ := run_append_own (P := Tryz.prog) w base t o.type e i z size bytes ht hi hz0 hz1 hz2 hzs hsz v n xs hown ⟨g, 0, none⟩ m c news hl (fun j u hj => by
    have hjl : j < news.length := by
      rcases Nat.lt_or_ge j news.length with hh | hh
      · exact hh
      · rw [List.getElem?_eq_none hh] at hj; cases hj
    have := hnews j (by omega)
    rw [hj] at this
    unfold Addr.add
    by_cases h0 : j = 0
    · subst h0; simpa using this
    · rw [if_neg h0]; simpa using this) h1 (by unfold maxLen; omega) (by omega) hbase
  unfold Oper.wp
  simp [execOp, ho, resolve, invoke, builtin, hs, hx, hrun, Result.andThen]
  exact hK v' w' r1 r2
theorem grown_below {w w' : World} (G : w.grownBy w' none) : Below w.heap.size w w' := ⟨G.os, G.tape, G.output, G.size, fun k hk => G.block k hk (by simp)⟩
theorem data_news {w w' : World} {d : Nat} {l : List UInt8} (X : Bx w d (byteV l) 5) (hb : Below w.heap.size w w') : ∀ j, j < l.length * 1 → w'.cell? ⟨d, j, none⟩ = (byteV l).toList[j]? := fun j _ => by rw [(X.below hb).cell]; simp
/-- What the region that makes the machine loads. -/
theorem code_held {w : World} {p : Nat} {C : Cd} {d r1 : Nat} {vl vs : Value} {r2 : Nat} (X1 : Bx w p #[.string (St C.text), vl, .map (some r1), .map (some r2), .slice (some ⟨d, 0, none⟩) C.data.length C.data.length, vs] 68) (ML : MapAt w r1 (labV C.labels)) {w' : World} (hb : Below w.heap.size w w') :
    w'.cell? ⟨p, 4, none⟩ = some (.slice (some ⟨d, 0, none⟩) C.data.length C.data.length) ∧ w'.cell? ⟨p, 2, none⟩ = some (.map (some r1)) ∧
      (Instr.lookup 63 (.map (some r1)) (.string (St [109, 97, 105, 110])) false).run Tryz.prog w' = .ok (.int .i64 ((C.labels.lookup [109, 97, 105, 110]).getD 0)) w' := by
  have X2 := X1.below hb
  refine ⟨by rw [X2.cell]; rfl, by rw [X2.cell]; rfl, ?_⟩
  have := lab_run1 (ML.below hb) (St [109, 97, 105, 110])
  rw [bl_St] at this
  exact this
/-- The machine as it is made. -/
def preM (C : Cd) (input : List UInt8) (sN : Nat) : Mach :=
  { regs := fun _ => 0, at_ := (C.labels.lookup [109, 97, 105, 110]).getD 0, data := fun i => C.data.getD i 0, stack := fun _ => 0, sN := sN, x := 0, y := 0, compared := false, input := input, kind := 0, code := 0, out := [], least := 9223372036854775807 }
def begM (C : Cd) (input : List UInt8) (sN : Nat) : Mach := { preM C input sN with regs := fun r => if r = 7 then 16777216 else if r = 15 then 16777216 - sN else 0 }
theorem begin_push (C : Cd) (input : List UInt8) (sN : Nat) : X.begin C input sN = X.push C (begM C input sN) 0 := rfl
/-- Where the machine lies that was made. -/
structure Made (w wx : World) (p : Nat) (C : Cd) (input : List UInt8) (sN : Nat) (vi : Value) (mb sb : Nat) (ad : Option Addr) (dcap : Nat) : Prop where
  below : Below w.heap.size w wx
  box : Bx wx mb (mcells p (preM C input sN) (.slice ad C.data.length dcap) (.slice (some ⟨sb, 0, none⟩) sN sN) vi (.slice none 0 0)) 88
  stk : Bx wx sb (byteV (List.replicate sN 0)) 5
  row : wx.ownsRow w.heap.size 5 1 (.slice ad C.data.length dcap) C.data.length (byteV C.data).toList
  hmb : w.heap.size ≤ mb
  hsb : w.heap.size ≤ sb
  had : ∀ a, ad = some a → a.block ≠ sb
theorem zeros_cell (n i : Nat) (h : i < n) : (byteV (List.replicate n 0))[i]? = some (.int .u8 0) := by
  unfold byteV
  simp [h]
theorem ByteRow.of_row {w : World} {base : Nat} {ad : Option Addr} {l : List UInt8} {cap : Nat} (h : w.ownsRow base 5 1 (.slice ad l.length cap) l.length (byteV l).toList) : ByteRow w ad l.length fun i => l.getD i 0 := by
  intro hn
  obtain ⟨h1, h2⟩ := h
  rcases h2 with ⟨-, h2⟩ | ⟨g, cp, cur, hv, -, hh, hc, -, hs, hcur⟩
  · omega
  · cases hv
    refine ⟨g, cur, rfl, hh, by omega, fun i hi => ?_⟩
    have e : cur[i]? = (byteV l).toList[i]? := by
      rw [← hcur, List.getElem?_take_of_lt (by omega), Array.getElem?_toList]
    rw [e]
    simp [byteV, List.getElem?_eq_getElem hi]
theorem ad_cap {w : World} {base : Nat} {ad : Option Addr} {n cap : Nat} {xs : List Value} (h : w.ownsRow base 5 1 (.slice ad n cap) n xs) : n ≤ cap := by
  obtain ⟨h1, h2⟩ := h
  rcases h2 with ⟨h2, h3⟩ | ⟨g, cp, cur, hv, -, hh, hc, -, hs, hcur⟩
  · omega
  · cases hv; exact hc
theorem row_mono {w : World} {b base : Nat} {e : TypeId} {size n : Nat} {v : Value} {xs : List Value} (h : w.ownsRow base e size v n xs) (hb : b ≤ base) : w.ownsRow b e size v n xs := by
  obtain ⟨h1, h2⟩ := h
  refine ⟨h1, ?_⟩
  rcases h2 with h2 | ⟨g, cp, cur, hv, hg, r⟩
  · exact .inl h2
  · exact .inr ⟨g, cp, cur, hv, Nat.le_trans hb hg, r⟩
theorem made_A {w w' : World} {p : Nat} {C : Cd} {input : List UInt8} {sN : Nat} {vi : Value} {ad : Option Addr} {dcap base : Nat} (hG : Below w.heap.size w w') (O' : w'.ownsRow base 5 1 (.slice ad C.data.length dcap) C.data.length (byteV C.data).toList) (hb : w.heap.size ≤ base) :
    Made w ((w'.alloc (.cells (byteV (List.replicate sN 0)) 5)).alloc (.cells (mcells p (preM C input sN) (.slice ad C.data.length dcap) (.slice (some ⟨w'.heap.size, 0, none⟩) sN sN) vi (.slice none 0 0)) 88)) p C input sN vi (w'.heap.size + 1) w'.heap.size ad dcap := by
  have hs := hG.size
  have hx := Bx.new (w := w'.alloc (.cells (byteV (List.replicate sN 0)) 5)) (c := mcells p (preM C input sN) (.slice ad C.data.length dcap) (.slice (some ⟨w'.heap.size, 0, none⟩) sN sN) vi (.slice none 0 0)) (T := 88)
  rw [World.size_alloc] at hx
  exact ⟨balloc (balloc hG _) _, hx, Bx.new.alloc, row_mono ((O'.alloc _).alloc _) hb, by omega, hs, fun a ha e => by subst ha; have := (O'.lt a.block rfl).2; omega⟩
theorem made_B {w w' : World} {p : Nat} {C : Cd} {input : List UInt8} {sN : Nat} {vi : Value} {ad : Option Addr} {dcap base : Nat} (hG : Below w.heap.size w w') (X : Bx w' w.heap.size (byteV (List.replicate sN 0)) 5) (O' : w'.ownsRow base 5 1 (.slice ad C.data.length dcap) C.data.length (byteV C.data).toList) (hb : w.heap.size + 1 ≤ base) :
    Made w (w'.alloc (.cells (mcells p (preM C input sN) (.slice ad C.data.length dcap) (.slice (some ⟨w.heap.size, 0, none⟩) sN sN) vi (.slice none 0 0)) 88)) p C input sN vi w'.heap.size w.heap.size ad dcap := by
  have hs := hG.size
  exact ⟨balloc hG _, Bx.new, X.alloc, row_mono (O'.alloc _) (by omega), hs, Nat.le_refl _, fun a ha e => by subst ha; have := (O'.lt a.block rfl).1; omega⟩
/-- A machine that was made lies in memory. -/
theorem Made.at_ {w wx : World} {p : Nat} {s : Str} {C : Cd} {input : List UInt8} {sN : Nat} {vi : Value} {mb sb : Nat} {ad : Option Addr} {dcap : Nat} (h : Made w wx p C input sN vi mb sb ad dcap) (B : Nat) (hC : CodeAt w B p C) (ok : CdOk s C) (E : Env w)
    (hin : InAt w vi input) (h0 : 0 < sN) (h1 : sN ≤ 1048576) (hl : ∀ n v, C.labels.lookup n = some v → v ≤ C.lines.length) :
    LOk w ⟨mb, p, ad, dcap, sb, sN, wx.heap.size⟩ C ∧ MAt w wx ⟨mb, p, ad, dcap, sb, sN, wx.heap.size⟩ C (preM C input sN) vi (.slice none 0 0) := by
  have hlab : 0 ≤ (C.labels.lookup [109, 97, 105, 110]).getD 0 ∧ (C.labels.lookup [109, 97, 105, 110]).getD 0 ≤ C.lines.length := by
    cases e : C.labels.lookup [109, 97, 105, 110] with
    | none => simp
    | some v => have := ok.labs _ v e; have := hl _ v e; simp only [Option.getD_some]; omega
  refine ⟨⟨h.hmb, h.hsb, fun a ha => ?_, h.stk.lt, h0, h1, ad_cap h.row, ok.dat, E, ⟨B, hC⟩, ok.spans, ok.labs, ok.vars, ok.lines, ok.nspans⟩, ?_⟩
  · have hr := h.row.lt
    subst ha
    exact ⟨(hr a.block rfl).1, h.had a rfl, (hr a.block rfl).2⟩
  · refine ⟨h.below, h.box, ?_, ?_, hin, World.ownsRow_nil _ _ _ _, ⟨fun _ _ => in0, in0, in0, hlab.1, hlab.2, by simp [preM], by simp [preM], by simp [preM, In64]⟩, rfl, Nat.le_refl _⟩
    · exact ByteRow.of_row h.row
    · exact fun _ => ⟨sb, _, rfl, h.stk, by simp [byteV], fun i hi => by rw [zeros_cell _ _ hi]; rfl⟩
set_option maxHeartbeats 4000000 in
set_option maxRecDepth 100000 in
theorem begin_any (w : World) (B p : Nat) (s : Str) (C : Cd) (hC : CodeAt w B p C) (ok : CdOk s C) (hlb : ∀ n v, C.labels.lookup n = some v → v ≤ C.lines.length) (E : Env w) (adi : Option Addr) (capi : Nat) (input : List UInt8) (hin : InAt w (.slice adi input.length capi) input) (sN : Nat) (h0 : 16 ≤ sN) (h1 : sN ≤ 1048576) :
    Calls Tryz.prog 31 #[.pointer (some ⟨p, 0, none⟩), .slice adi input.length capi, .int .i64 sN] w fun e w' => ∃ L vo, e = .returned (.pointer (some ⟨L.mb, 0, none⟩)) ∧ LOk w L C ∧ MAt w w' L C (X.begin C input sN) (.slice adi input.length capi) vo := by
  obtain ⟨R, hR⟩ : ∃ R, X.begin C input sN = R := ⟨_, rfl⟩
  rw [hR]
  rw [begin_push] at hR
  replace hR := Lib.hid hR
  have hPre := fun wx mb sb ad dcap (h : Made w wx p C input sN (.slice adi input.length capi) mb sb ad dcap) => Lib.hid (h.at_ B hC ok E hin (by omega) h1 hlb)
  have hdl := ok.dat
  clear ok hlb E hin
  obtain ⟨hlo, vl, xs, r1, r2, d, vs, X1, R1, LA, ML, MV, XD, RS, hr⟩ := hC
  obtain ⟨mn, hmn⟩ : ∃ e, (C.labels.lookup [109, 97, 105, 110]).getD 0 = e := ⟨_, rfl⟩
  have hmk := fun w => make_bytes w (sN : Int) (by omega) (by omega)
  have hX := Lib.hid X1
  have hM := Lib.hid ML
  have hD := Lib.hid XD
  have XDl := XD.lt
  have hdl2 : 0 + C.data.length ≤ 1099511627776 := by omega
  have hone : ∀ u ∈ (byteV C.data).toList, u.oneCell' = true := by intro u hu; simp only [byteV, List.mem_map] at hu; obtain ⟨b, -, rfl⟩ := hu; rfl
  have hbl : (byteV C.data).toList.length = C.data.length * 1 := by simp [byteV]
  go_enter Tryz.func31, Tryz.ntmps31
  go_wp2_with fail
  go_cut [7] (fun s7 wx => ∃ mb sb ad dcap, s7 = .pointer (some ⟨mb, 0, none⟩) ∧ Made w wx p C input sN (.slice adi input.length capi) mb sb ad dcap)
  case first =>
    go_region_held3 (fun w' => w'.cell? ⟨p, 4, none⟩ = some (.slice (some ⟨d, 0, none⟩) C.data.length C.data.length) ∧ w'.cell? ⟨p, 2, none⟩ = some (.map (some r1)) ∧ (Instr.lookup 63 (.map (some r1)) (.string (St [109, 97, 105, 110])) false).run Tryz.prog w' = .ok (.int .i64 ((C.labels.lookup [109, 97, 105, 110]).getD 0)) w') ((refine code_held hX.out hM.out ?_; (repeat' (first | with_reducible assumption | with_reducible exact Below.refl _ _ | (with_reducible refine below_drewN ?_ _) | (with_reducible refine Below.drew ?_) | (with_reducible refine balloc ?_ _) | (with_reducible refine Below.setCell ?_ (by first | exact Nat.le_refl _ | (simp; done) | omega | (simp; omega)) _) | (with_reducible refine bstep ?_ (by with_reducible assumption)))))) (first | (refine step_appN (.const (.slice none 0 0)) (.tmp 12) 23 rfl _ 5 (.int .u8 0) 1 1 und23 info5 rfl Nat.one_pos (.slice none 0 0) 0 [] rfl (World.ownsRow_nil _ _ _ _) d C.data.length C.data.length (byteV C.data).toList rfl hbl (data_news hD.out (by (repeat' (first | with_reducible assumption | with_reducible exact Below.refl _ _ | (with_reducible refine below_drewN ?_ _) | (with_reducible refine Below.drew ?_) | (with_reducible refine balloc ?_ _) | (with_reducible refine Below.setCell ?_ (by first | exact Nat.le_refl _ | (simp; done) | omega | (simp; omega)) _) | (with_reducible refine bstep ?_ (by with_reducible assumption)))))) hone hdl2 (by decide) (Nat.le_refl _) ?_; intro v' w' O' G'; have hG := grown_below G'; obtain ⟨adn, capn, rfl, -⟩ := ownsRow_at O'))
    all_goals
      rw [Nat.zero_add, List.nil_append] at O'
      have hsz := hG.size
      simp only [World.size_alloc, World.size_drew] at hsz
      go_wp2_with fail
      go_meet
      subst hmn
      first
        | exact ⟨_, _, adn, capn, rfl, made_A (by (repeat' (first | with_reducible assumption | with_reducible exact Below.refl _ _ | (with_reducible refine below_drewN ?_ _) | (with_reducible refine Below.drew ?_) | (with_reducible refine balloc ?_ _) | (with_reducible refine Below.setCell ?_ (by first | exact Nat.le_refl _ | (simp; done) | omega | (simp; omega)) _) | (with_reducible refine bstep ?_ (by with_reducible assumption))))) O' (Nat.le_refl _)⟩
        | exact ⟨_, _, adn, capn, rfl, made_A (by (repeat' (first | with_reducible assumption | with_reducible exact Below.refl _ _ | (with_reducible refine below_drewN ?_ _) | (with_reducible refine Below.drew ?_) | (with_reducible refine balloc ?_ _) | (with_reducible refine Below.setCell ?_ (by first | exact Nat.le_refl _ | (simp; done) | omega | (simp; omega)) _) | (with_reducible refine bstep ?_ (by with_reducible assumption))))) O' (by simp)⟩
        | exact ⟨_, _, adn, capn, rfl, made_B (by (repeat' (first | with_reducible assumption | with_reducible exact Below.refl _ _ | (with_reducible refine below_drewN ?_ _) | (with_reducible refine Below.drew ?_) | (with_reducible refine balloc ?_ _) | (with_reducible refine Below.setCell ?_ (by first | exact Nat.le_refl _ | (simp; done) | omega | (simp; omega)) _) | (with_reducible refine bstep ?_ (by with_reducible assumption))))) (Bx.below (Bx.drew Bx.new) hG) O' (by simp)⟩
  case rest =>
    obtain ⟨mb, sb, ad, dcap, rfl, MD⟩ := hcut
    obtain ⟨K, A⟩ := (hPre _ _ _ _ _ MD).out
    clear hPre hmk hX hM hD hone hbl
    obtain ⟨L, hL⟩ : ∃ L, (⟨mb, p, ad, dcap, sb, sN, wc.heap.size⟩ : Lay) = L := ⟨_, rfl⟩
    have hLm : L.mb = mb := by rw [← hL]
    rw [hL] at K A
    subst hLm
    have hx := A.box.cell
    have hf := A.box.frozen
    have A1 := A.put (m' := setReg (preM C input sN) 7 16777216) K 8 (.int .i64 16777216) rfl A.inp rfl rfl rfl rfl (A.ok.setReg 7 (by unfold In64; omega))
    have A2 := A1.put (m' := begM C input sN) K 16 (.int .i64 (16777216 - (sN : Int))) rfl A.inp rfl rfl rfl rfl ⟨fun r hr => by unfold begM; simp only; split <;> (try split) <;> (unfold In64; omega), A.ok.x, A.ok.y, A.ok.at0, A.ok.at1, A.ok.kind, A.ok.code, A.ok.least⟩
    have A2 := Lib.hid A2
    have HP := fun w1 h => Lib.hid (push_any w w1 L C (begM C input sN) (.slice adi input.length capi) (.slice none 0 0) K h 0)
    clear A1
    go_wp2_with fail
    go_region
    all_goals
      go_wp2_with fail
      refine ((HP _ (A2.out.on (Below.drew (Below.refl _ _)))).out).mono ?_
      rintro e w3 ⟨rfl, hM3, hK3⟩
      go_wp2_with fail
      go_ret
      rw [← hR.out]
      exact ⟨L, _, rfl, K, hM3⟩
end Go.Proofs.YtfkfdffhajokkaaGreatDoor
/- What package x86's Run and Deepest answer; conditions: a code that was read and lies in memory, an input of at most 4096 bytes, fuel and a stack that may be. -/
namespace Go.Proofs.YtfkfdffhajokkaaGreatDoor
open Go.RowKit X
set_option linter.unusedSimpArgs false
/-- What Run answers: an outcome. -/
def OcRet (w : World) (e : Ending) (w' : World) (kind code : Int) (out : List UInt8) : Prop :=
  ∃ vo, e = .returned (.agg #[.int .i64 kind, .int .i64 code, vo]) ∧ w'.ownsRow w.heap.size 5 1 vo out.length (out.map fun b => .int .u8 (b.toNat : Int)) ∧ Below w.heap.size w w'
theorem InAt.below {w w' : World} {vi : Value} {l : List UInt8} (h : InAt w vi l) (hb : Below w.heap.size w w') : InAt w' vi l := by
  obtain ⟨ad, cap, h1, h2, h3⟩ := h
  refine ⟨ad, cap, h1, h2, fun hl => ?_⟩
  obtain ⟨b, o, h4, h5⟩ := h3 hl
  exact ⟨b, o, h4, fun i hi => cell_below hb (h5 i hi)⟩
theorem may_ok {n fuel sN : Nat} (hf : fuel ≤ 16777216) (hn : n ≤ 4096) (hm : sN % 16 = 0) (h0 : 16 ≤ sN) (h1 : sN ≤ 1048576) : X.may n fuel sN = true := by
  unfold X.may
  have e : ((sN : Int).tmod 16) = 0 := by rw [Int.tmod_eq_emod_of_nonneg (by omega)]; omega
  rw [e]
  simp only [Bool.and_eq_true, decide_eq_true_eq]
  refine ⟨⟨⟨⟨⟨?_, ?_⟩, ?_⟩, ?_⟩, ?_⟩, ?_⟩ <;> first | omega | trivial
/-- What a code that was read is like. -/
structure CodeOk (s : Str) (C : Cd) : Prop where
  ok : CdOk s C
  len : ∀ l ∈ C.lines, l.word.length ≤ 8
  lab : ∀ n v, C.labels.lookup n = some v → v ≤ C.lines.length
theorem read_code {s : Str} {C : Cd} (hs : s.length ≤ 1048575) (h : X.read s = .ok C) : CodeOk s C := ⟨read_ok hs h, read_len h, (read_labs h).1⟩
theorem push_out0 (C : Cd) (input : List UInt8) (sN : Nat) : (X.begin C input sN).out.length ≤ 1 := by rw [begin_push, push_out]; exact Nat.zero_le _
set_option maxHeartbeats 4000000 in
set_option maxRecDepth 100000 in
theorem Run_any (w : World) (B p : Nat) (s : Str) (C : Cd) (hC : CodeAt w B p C) (ok : CodeOk s C) (E : Env w) (adi : Option Addr) (capi : Nat) (input : List UInt8) (hin : InAt w (.slice adi input.length capi) input) (fuel sN : Nat) (hf : fuel ≤ 16777216) (hn : input.length ≤ 4096) (hm : sN % 16 = 0) (h0 : 16 ≤ sN) (h1 : sN ≤ 1048576) :
    Calls Tryz.prog 15 #[.pointer (some ⟨p, 0, none⟩), .slice adi input.length capi, .int .i64 fuel, .int .i64 sN] w fun e w' => OcRet w e w' (X.run C input fuel sN).kind (X.run C input fuel sN).code (X.run C input fuel sN).out := by
  obtain ⟨R, hR⟩ : ∃ R, X.run C input fuel sN = R := ⟨_, rfl⟩
  rw [hR]
  replace hR := Lib.hid hR
  have hmay := may_ok hf hn hm h0 h1
  have HY := fun w => Lib.hid (mayRun_any adi input.length capi fuel sN w)
  simp only [hmay] at HY
  have HB := fun w hC E hin => Lib.hid (begin_any w B p s C hC ok.ok ok.lab E adi capi input hin sN h0 h1)
  have HR := fun w0 w L vi vo K h => Lib.hid (run_any w0 w L C (X.begin C input sN) vi vo K h ok.ok.lns ok.len fuel hf (push_out0 C input sN))
  have X8 := Bx.new (w := w) (c := #[.int .i64 0, .int .i64 0, .slice none 0 0]) (T := 43)
  have B8 := balloc (Below.refl w.heap.size w) (.cells #[.int .i64 0, .int .i64 0, .slice none 0 0] 43)
  clear hmay hf hn hm h0 h1
  go_enter Tryz.func15, Tryz.ntmps15
  go_wp2_with fail
  refine ((HY _).out).mono ?_
  rintro e w1 ⟨rfl, hb1⟩
  have B1 := bstep B8 hb1
  have X81 := X8.below hb1
  have C1 := hC.below B1
  have I1 := hin.below B1
  have E1 := E.below B1
  have hsz1 := hb1.size
  simp only [World.size_alloc] at hsz1
  clear X8 B8 hC hin E
  go_wp2_with fail
  refine ((HB _ C1 E1 I1).out).mono ?_
  rintro e w2 ⟨L, vo, rfl, K, A2⟩
  go_wp2_with fail
  refine ((HR _ _ _ _ _ K A2).out).mono ?_
  rintro e w3 ⟨rfl, vi3, vo3, A3⟩
  have hR2 : X.run C input fuel sN = X.runN C fuel (X.begin C input sN) := rfl
  rw [← hR2, hR.out] at A3
  have X83 := X81.below A3.below
  have hx := A3.box.cell
  have hx8 := X83.cell
  have hf8 := X83.frozen
  obtain ⟨ado, capo, hvo, -⟩ := ownsRow_at A3.out
  subst hvo
  have hsB := K.sB
  have hsb := K.sb
  go_wp2_with fail
  have X84 := ((X83.set (i := 0) (v := .int .i64 R.kind)).set (i := 1) (v := .int .i64 R.code)).set (i := 2) (v := .slice ado R.out.length capo)
  have hx84 := X84.cell
  have hne : ∀ k, (Value.slice ado R.out.length capo).ownBlock = some k → k ≠ w.heap.size := fun k hk => by have := (A3.out.lt k hk).1; omega
  have B3 := B1.trans (Below.mono A3.below B1.size)
  refine bodyPost_ret (v := .agg #[.int .i64 R.kind, .int .i64 R.code, .slice ado R.out.length capo]) (by simp [results, Tryz.results15, go_sem, hx84]) rfl ⟨_, rfl, ?_, ?_⟩
  · have O := row_mono A3.out (show w.heap.size ≤ L.B by omega)
    exact ownsRow_of_block O fun k hk => by
      have := hne k hk
      rw [Below.heap_setCell _ _ _ k this, Below.heap_setCell _ _ _ k this, Below.heap_setCell _ _ _ k this]
  · exact bset (bset (bset B3 (Nat.le_refl _)) (Nat.le_refl _)) (Nat.le_refl _)
set_option maxHeartbeats 4000000 in
set_option maxRecDepth 100000 in
theorem Deepest_any (w : World) (B p : Nat) (s : Str) (C : Cd) (hC : CodeAt w B p C) (ok : CodeOk s C) (E : Env w) (adi : Option Addr) (capi : Nat) (input : List UInt8) (hin : InAt w (.slice adi input.length capi) input) (fuel : Nat) (hf : fuel ≤ 16777216) (hn : input.length ≤ 4096) :
    Calls Tryz.prog 16 #[.pointer (some ⟨p, 0, none⟩), .slice adi input.length capi, .int .i64 fuel] w fun e w' => e = .returned (.int .i64 (wrap64 (16777216 - (X.run C input fuel 1048576).least))) ∧ Below w.heap.size w w' := by
  obtain ⟨R, hR⟩ : ∃ R, X.run C input fuel 1048576 = R := ⟨_, rfl⟩
  rw [hR]
  replace hR := Lib.hid hR
  have hmay := may_ok hf hn (show 1048576 % 16 = 0 by decide) (by decide) (Nat.le_refl _)
  have HY := fun w => Lib.hid (mayRun_any adi input.length capi fuel (1048576 : Nat) w)
  simp only [hmay] at HY
  have HB := fun w hC E hin => Lib.hid (begin_any w B p s C hC ok.ok ok.lab E adi capi input hin 1048576 (by decide) (Nat.le_refl _))
  have HR := fun w0 w L vi vo K h => Lib.hid (run_any w0 w L C (X.begin C input 1048576) vi vo K h ok.ok.lns ok.len fuel hf (push_out0 C input 1048576))
  clear hmay hf hn
  go_enter Tryz.func16, Tryz.ntmps16
  go_wp2_with fail
  refine ((HY _).out).mono ?_
  rintro e w1 ⟨rfl, B1⟩
  have C1 := hC.below B1
  have I1 := hin.below B1
  have E1 := E.below B1
  go_wp2_with fail
  refine ((HB _ C1 E1 I1).out).mono ?_
  rintro e w2 ⟨L, vo, rfl, K, A2⟩
  go_wp2_with fail
  refine ((HR _ _ _ _ _ K A2).out).mono ?_
  rintro e w3 ⟨rfl, vi3, vo3, A3⟩
  have hR2 : X.run C input fuel 1048576 = X.runN C fuel (X.begin C input 1048576) := rfl
  rw [← hR2, hR.out] at A3
  have hx := A3.box.cell
  have hw : IntKind.i64.wrap (16777216 - R.least) = wrap64 (16777216 - R.least) := by rw [IntKind.wrap_i64]; unfold wrap64; omega
  go_wp2_with fail
  go_ret
  exact ⟨rfl, B1.trans (Below.mono A3.below B1.size)⟩
end Go.Proofs.YtfkfdffhajokkaaGreatDoor
