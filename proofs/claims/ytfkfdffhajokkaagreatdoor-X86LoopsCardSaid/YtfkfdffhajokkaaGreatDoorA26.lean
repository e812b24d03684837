/- What an instruction of two operands looks up and reckons; conditions: a machine that lies in memory. -/
import Derived.Test.YtfkfdffhajokkaaGreatDoorA25
import Derived.Deep.DeepCutAuto
namespace Go.Proofs.YtfkfdffhajokkaaGreatDoor
open Go.RowKit X
set_option linter.unusedSimpArgs false
theorem zero157 (w : World) : (zeroValue 157).run Tryz.prog w = .ok (Wd 0 false) w := by kernel_rfl
theorem ext_run {w : World} {r : Nat} (hat : MapAt w r extMap) (k : Str) : (Instr.lookup 168 (.map (some r)) (.string (St k)) true).run Tryz.prog w = .ok (.tuple #[Wd ((extTab.lookup k).getD (0, false)).1 ((extTab.lookup k).getD (0, false)).2, .bool (extTab.lookup k).isSome]) w := by
  have e := lookV_str (fun p : Int × Bool => Wd p.1 p.2) extTab (St k)
  rw [bl_St] at e
  rw [look_run hat (keysOk_str (fun p : Int × Bool => Wd p.1 p.2) extTab) (.str (St k)) 168 9 157 u168 u9 _ zero157 true _ e]
  cases extTab.lookup k <;> rfl
theorem num_run {w : World} {r : Nat} {tab : List (Str × Int)} (hat : MapAt w r (tab.map fun p => (.string (St p.1), .int .i64 p.2))) (k : Str) : (Instr.lookup 63 (.map (some r)) (.string (St k)) true).run Tryz.prog w = .ok (.tuple #[.int .i64 ((tab.lookup k).getD 0), .bool (tab.lookup k).isSome]) w := by
  have e := lookV_str (fun p : Int => .int .i64 p) tab (St k)
  rw [bl_St] at e
  rw [look_run hat (keysOk_str (fun p : Int => .int .i64 p) tab) (.str (St k)) 63 9 3 und63 und9 _ zero3 true _ e]
  cases tab.lookup k <;> rfl
theorem wrapW_in64 (b : Int) (s : Bool) (n : Int) (hb : b = 8 ∨ b = 16 ∨ b = 32 ∨ b = 64) : In64 (wrapW b s n) := by
  unfold wrapW
  cases s
  · rw [if_neg (by simp)]; exact In64.wrap _
  · rw [if_pos rfl]
    have h := In64.wrap (n * 2 ^ (64 - b).toNat)
    generalize wrap64 (n * 2 ^ (64 - b).toNat) = q at h
    unfold In64 at h ⊢
    rcases hb with rfl | rfl | rfl | rfl
    · rw [show ((64 : Int) - 8).toNat = 56 from rfl, show (2 : Int) ^ 56 = 72057594037927936 by decide]; omega
    · rw [show ((64 : Int) - 16).toNat = 48 from rfl, show (2 : Int) ^ 48 = 281474976710656 by decide]; omega
    · rw [show ((64 : Int) - 32).toNat = 32 from rfl, show (2 : Int) ^ 32 = 4294967296 by decide]; omega
    · rw [show ((64 : Int) - 64).toNat = 0 from rfl, Int.pow_zero]; omega
theorem load_in64 (C : Cd) (m : Mach) (a b : Int) (s : Bool) (hb : b = 8 ∨ b = 16 ∨ b = 32 ∨ b = 64) : In64 (X.load C m a b s).2 := by
  unfold X.load
  split
  · exact wrapW_in64 _ _ _ hb
  · exact wrapW_in64 _ _ _ hb
  · exact wrapW_in64 _ _ _ hb
theorem value_in64 (C : Cd) (m : Mach) (o : Opd) (ok : OpOk o) (b : Int) (s : Bool) (hb : b = 8 ∨ b = 16 ∨ b = 32 ∨ b = 64) : In64 (X.value C m o b s).2 := by
  unfold X.value
  split
  · exact ok.n
  · split
    · exact load_in64 C m _ b s hb
    · exact wrapW_in64 _ _ _ hb
theorem halt_regs (m : Mach) (k c : Int) : (halt m k c).regs = m.regs := by unfold halt; split <;> rfl
theorem value_regs (C : Cd) (m : Mach) (o : Opd) (b : Int) (s : Bool) : (X.value C m o b s).1.regs = m.regs := by
  unfold X.value
  split
  · rfl
  · split
    · unfold X.load
      split
      · rfl
      · rfl
      · exact halt_regs _ _ _
    · rfl
theorem bits_in64 (op : BinOp) (a b : Int) (h : op = .and ∨ op = .or ∨ op = .xor) : In64 (Go.bits op .i64 a b) := by
  have key : ∀ n : Int, In64 (IntKind.i64.wrap n) := fun n => by rw [IntKind.wrap_i64]; unfold In64; omega
  rcases h with rfl | rfl | rfl
  · exact key _
  · exact key _
  · exact key _
theorem div_in64 {a c : Int} (ha : In64 a) (hc : 1 ≤ c) : In64 (a / c) := by
  unfold In64 at ha ⊢
  by_cases h : 0 ≤ a
  · have h1 := Int.ediv_nonneg h (by omega : 0 ≤ c)
    have h2 := Int.ediv_le_self c h
    omega
  · have h1 : a / c < 0 := Int.ediv_neg_of_neg_of_pos (by omega) (by omega)
    have h2 : a ≤ a / c := by
      refine (Int.le_ediv_iff_mul_le (by omega)).2 ?_
      obtain ⟨d, rfl⟩ : ∃ d : Nat, c = 1 + d := ⟨(c - 1).toNat, by omega⟩
      have : a * (d : Int) ≤ 0 := Int.mul_nonpos_of_nonpos_of_nonneg (by omega) (by omega)
      rw [Int.mul_add]
      omega
    omega
theorem plain_in64 (sub a b : Int) (ha : In64 a) : In64 (plain sub a b) := by
  unfold plain
  split
  · exact In64.wrap _
  · split
    · exact In64.wrap _
    · split
      · exact In64.wrap _
      · split
        · exact bits_in64 _ _ _ (.inl rfl)
        · split
          · exact bits_in64 _ _ _ (.inr (.inl rfl))
          · split
            · exact bits_in64 _ _ _ (.inr (.inr rfl))
            · split
              · exact In64.wrap _
              · split
                · exact In64.wrap _
                · exact div_in64 ha (by
                    have : (0 : Int) < 2 ^ (b % 64).toNat := Int.pow_pos (by decide)
                    omega)
theorem ext_width : ∀ q ∈ extTab, q.2.1 = 8 ∨ q.2.1 = 16 ∨ q.2.1 = 32 ∨ q.2.1 = 64 := by decide
theorem part_width : ∀ q ∈ partTab, q.2 = 1 ∨ q.2 = 2 ∨ q.2 = 4 := by decide
theorem sum_sub : ∀ q ∈ sumTab, q.2 = 1 ∨ q.2 = 2 ∨ q.2 = 3 ∨ q.2 = 8 ∨ q.2 = 9 ∨ q.2 = 10 ∨ q.2 = 11 ∨ q.2 = 12 ∨ q.2 = 13 := by decide
abbrev oc (o : Opd) : Array Value := #[.int .i64 o.kind, .int .i64 o.reg, .int .i64 o.bytes, .int .i64 o.n, .int .i64 o.x, .int .i64 o.scale, .string (St o.name)]
/-- Where an instruction of two operands stands. -/
structure TAt (w0 w wx : World) (L : Lay) (C : Cd) (m : Mach) (vi vo : Value) (word : Str) (vl : Value) (fr tg : Opd) : Prop where
  at_ : MAt w0 wx L C m vi vo
  kp : Kp L.S w wx
  l : Bx wx w.heap.size #[.string (St word), vl] 75
  f : Bx wx (w.heap.size + 1) (oc fr) 118
  t : Bx wx (w.heap.size + 2) (oc tg) 118
theorem TAt.on {w0 w wx wy : World} {L : Lay} {C : Cd} {m : Mach} {vi vo : Value} {word : Str} {vl : Value} {fr tg : Opd} (h : TAt w0 w wx L C m vi vo word vl fr tg) (hb : Below wx.heap.size wx wy) : TAt w0 w wy L C m vi vo word vl fr tg :=
  ⟨h.at_.on hb, h.kp.below hb, h.l.below hb, h.f.below hb, h.t.below hb⟩
theorem TAt.turn {w0 w wx wy : World} {L : Lay} {C : Cd} {m m' : Mach} {vi vo vi' vo' : Value} {word : Str} {vl : Value} {fr tg : Opd} (h : TAt w0 w wx L C m vi vo word vl fr tg) (hS : ∀ k, k ∈ L.S → k < w.heap.size) (hM : MAt w0 wy L C m' vi' vo') (hK : Kp L.S wx wy) : TAt w0 w wy L C m' vi' vo' word vl fr tg :=
  ⟨hM, h.kp.trans hK, h.l.kp hK (fun e => by have := hS _ e; omega), h.f.kp hK (fun e => by have := hS _ e; omega), h.t.kp hK (fun e => by have := hS _ e; omega)⟩
/-- The cells that a region loads, of a world. -/
theorem TAt.held {w0 w wx : World} {L : Lay} {C : Cd} {m : Mach} {vi vo : Value} {word : Str} {vl : Value} {fr tg : Opd} (h : TAt w0 w wx L C m vi vo word vl fr tg) {r : Nat} {v : Int} (hr : r < 16) (hv : m.regs r = v) :
    wx.cell? ⟨w.heap.size + 1 + 1, 1, none⟩ = some (.int .i64 tg.reg) ∧ wx.cell? ⟨L.mb, 1 + r, none⟩ = some (.int .i64 v) ∧
    wx.cell? ⟨w.heap.size + 1, 0, none⟩ = some (.int .i64 fr.kind) ∧ wx.cell? ⟨w.heap.size + 1, 1, none⟩ = some (.int .i64 fr.reg) ∧ wx.cell? ⟨w.heap.size + 1, 2, none⟩ = some (.int .i64 fr.bytes) ∧ wx.cell? ⟨w.heap.size + 1, 3, none⟩ = some (.int .i64 fr.n) ∧
    wx.cell? ⟨w.heap.size + 1, 4, none⟩ = some (.int .i64 fr.x) ∧ wx.cell? ⟨w.heap.size + 1, 5, none⟩ = some (.int .i64 fr.scale) ∧ wx.cell? ⟨w.heap.size + 1, 6, none⟩ = some (.string (St fr.name)) := by
  subst hv
  exact ⟨by rw [h.t.cell]; rfl, h.at_.reg hr, by rw [h.f.cell]; rfl, by rw [h.f.cell]; rfl, by rw [h.f.cell]; rfl, by rw [h.f.cell]; rfl, by rw [h.f.cell]; rfl, by rw [h.f.cell]; rfl, by rw [h.f.cell]; rfl⟩
end Go.Proofs.YtfkfdffhajokkaaGreatDoor
/- How package x86's machine does an instruction of two operands; conditions: a machine that lies in memory, operands as they are read. -/
namespace Go.Proofs.YtfkfdffhajokkaaGreatDoor
open Go.RowKit X
set_option linter.unusedSimpArgs false
set_option maxHeartbeats 4000000 in
set_option maxRecDepth 100000 in
theorem two_ext (w0 w : World) (L : Lay) (C : Cd) (m : Mach) (vi vo : Value) (K : LOk w0 L C) (h : MAt w0 w L C m vi vo) (word : Str) (ad : Option Addr) (n cap : Nat) (fr tg : Opd) (ok : TwoOk word fr tg) (b : Int) (s : Bool) (he : extTab.lookup word = some (b, s)) :
    Calls Tryz.prog 85 #[.pointer (some ⟨L.mb, 0, none⟩), .agg #[.string (St word), .slice ad n cap], Ov fr, Ov tg] w fun e w' => DoRet w0 w L C vi vo e w' (X.two C m word fr tg) := by
  obtain ⟨R, hR⟩ : ∃ R, X.two C m word fr tg = R := ⟨_, rfl⟩
  rw [hR]
  unfold X.two at hR
  have HX := fun w => Lib.hid (ext_any w)
  have B1 := balloc (Below.refl w.heap.size w) (.cells #[.string (St word), .slice ad n cap] 75)
  have B2 := balloc B1 (.cells (oc fr) 118)
  have B3 := balloc B2 (.cells (oc tg) 118)
  have X1 := ((Bx.new (w := w) (c := #[.string (St word), .slice ad n cap]) (T := 75)).alloc (o := .cells (oc fr) 118)).alloc (o := .cells (oc tg) 118)
  have X2 := (Bx.new (w := (w.alloc (.cells #[.string (St word), .slice ad n cap] 75))) (c := oc fr) (T := 118)).alloc (o := .cells (oc tg) 118)
  have X3 := Bx.new (w := (w.alloc (.cells #[.string (St word), .slice ad n cap] 75)).alloc (.cells (oc fr) 118)) (c := oc tg) (T := 118)
  rw [World.size_alloc] at X2
  rw [World.size_alloc, World.size_alloc] at X3
  have hT : TAt w0 w _ L C m vi vo word (.slice ad n cap) fr tg := ⟨h.on B3, Kp.of_below B3, X1, X2, X3⟩
  have hS : ∀ k, k ∈ L.S → k < w.heap.size := fun k hk => (K.S_lt h k hk).2
  have hx1 := X1.cell
  have hx2 := X2.cell
  have hx3 := X3.cell
  have hT := Lib.hid hT
  clear X1 X2 X3 B1 B2 B3
  have HE : ∀ (w : World) r, MapAt w r extMap → (Instr.lookup 168 (.map (some r)) (.string (St word)) true).run Tryz.prog w = .ok (.tuple #[Wd b s, .bool true]) w := fun w r hat => by rw [ext_run hat, he]; rfl
  have hb8 := ext_width _ (lookup_mem he)
  replace hR : X.move C (X.value C m fr b s).1 tg (X.value C m fr b s).2 8 = R := by rw [← hR, he]
  clear he
  simp only at hb8
  have hv := value_in64 C m fr ok.oa b s hb8
  have HV := fun w h => Lib.hid (value_any w0 w L C m vi vo K h fr ok.oa b s hb8)
  obtain ⟨q, hq⟩ : ∃ q, X.value C m fr b s = q := ⟨_, rfl⟩
  rw [hq] at hR hv
  simp only [hq] at HV
  have HM := fun w h => Lib.hid (move_any w0 w L C q.1 vi vo K h tg ok.ob q.2 hv 8 (by decide))
  replace hR := Lib.hid hR
  clear hq hv hb8
  go_enter Tryz.func85, Tryz.ntmps85
  go_upto_region 1 with fail
  go_cut [8, 9] (fun s8 s9 wx => ∃ k, s8 = .pointer (some ⟨k, 0, none⟩) ∧ s9 = .bool true ∧ Bx wx k #[.int .i64 b, .bool s] 157 ∧ w.heap.size ≤ k ∧ TAt w0 w wx L C m vi vo word (.slice ad n cap) fr tg)
  case first =>
    generalize hG : ((w.alloc (.cells #[.string (St word), .slice ad n cap] 75)).alloc (.cells (oc fr) 118)).alloc (.cells (oc tg) 118) = wg at *
    have hz1 := (hT.out.on (balloc (Below.refl _ _) (.cells #[.int .i64 0, .bool false] 157))).l.cell
    go_region_with (go_at_call 112; refine ((HX _).out).mono ?_; rintro e w1 ⟨r, rfl, hat, hb1⟩; have hB1 : Below wg.heap.size wg w1 := (by (repeat' (first | with_reducible assumption | with_reducible exact Below.refl _ _ | (with_reducible refine below_drewN ?_ _) | (with_reducible refine Below.drew ?_) | (with_reducible refine balloc ?_ _) | (with_reducible refine Below.setCell ?_ (by first | exact Nat.le_refl _ | (simp; done) | omega | (simp; omega)) _) | (with_reducible refine bstep ?_ (by with_reducible assumption))))); have hT1 := hT.out.on hB1; have hy1 := hT1.l.cell; have hy2 := (hT1.on (balloc (Below.refl _ _) (.cells #[.int .i64 0, .bool false] 157))).l.cell; (try (have X8 : Bx w1 wg.heap.size #[.int .i64 0, .bool false] 157 := (by first | exact Bx.below (Bx.new (w := wg)) hb1 | exact Bx.below (Bx.new (w := wg.drew)) hb1 | exact Bx.below (Bx.drew (Bx.new (w := wg))) hb1); have hx8 := X8.cell; have hf8 := X8.frozen)); have hl1 := HE _ _ hat; have hl2 := HE _ _ (hat.alloc hat.lt (.cells #[.int .i64 0, .bool false] 157)))
    all_goals
      go_wp2_with fail
      go_meet
      refine ⟨_, rfl, rfl, ?_, ?_, hT.out.on (by (repeat' (first | with_reducible assumption | with_reducible exact Below.refl _ _ | (with_reducible refine below_drewN ?_ _) | (with_reducible refine Below.drew ?_) | (with_reducible refine balloc ?_ _) | (with_reducible refine Below.setCell ?_ (by first | exact Nat.le_refl _ | (simp; done) | omega | (simp; omega)) _) | (with_reducible refine bstep ?_ (by with_reducible assumption)))))⟩
      · first
          | exact Bx.new
          | exact (Bx.set (i := 1) (v := .bool s) (Bx.set (i := 0) (v := .int .i64 b) X8))
          | exact (Bx.set (i := 1) (v := .bool s) (Bx.set (i := 0) (v := .int .i64 b) (Bx.new (w := w1) (c := #[.int .i64 0, .bool false]) (T := 157))))
          | (trace_state; fail)
      · have := hT.out.kp.size; have := hB1.size; omega
  case rest =>
    obtain ⟨k8, rfl, rfl, X8, hk8, T⟩ := hcut
    have hx8 := X8.cell
    clear hx1 hx2 hx3 HX HE
    -- the value, and then the move
    have hyf := T.f.cell
    have hyt := T.t.cell
    go_wp2_with fail
    go_region_with (first | (go_at_call 114; refine ((HV _ ?_).out).mono ?_; exact T.at_.on (Below.drew (Below.refl _ _)); rintro e w2 ⟨rfl, hM2, hK2⟩; have T2 := (T.on (Below.drew (Below.refl _ _))).turn hS hM2 hK2; have hz1 := T2.t.cell; have hz2 := T2.f.cell) | (go_at_call 113; refine ((HM _ hM2).out).mono ?_; rintro e w3 ⟨rfl, hM3, hK3⟩))
    all_goals
      go_wp2_with fail
      refine bodyPost_ret (v := .tuple #[]) (by simp [results, Tryz.results85, go_sem]) rfl ?_
      rw [← hR.out]
      exact ⟨rfl, hM3, T2.kp.trans hK3⟩
end Go.Proofs.YtfkfdffhajokkaaGreatDoor
