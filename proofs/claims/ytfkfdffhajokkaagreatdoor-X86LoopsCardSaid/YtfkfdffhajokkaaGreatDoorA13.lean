/- What package x86's reading of one instruction answers; conditions: a text shorter than 2^32 less 15 bytes, the library's variables and the table of forms as they begin, the names that are gathered. -/
import Derived.Test.YtfkfdffhajokkaaGreatDoorA12
namespace Go.Proofs.YtfkfdffhajokkaaGreatDoor
open Go.RowKit X
set_option linter.unusedSimpArgs false
theorem info118 : (Tryz.prog.info? 118).map (fun i => (i.zero, i.size, i.bytes)) = some (some (.agg #[.int .i64 0, .int .i64 0, .int .i64 0, .int .i64 0, .int .i64 0, .int .i64 0, .string ⟨#[]⟩]), 7, 64) := by kernel_rfl
theorem und73 : Tryz.prog.underlying 73 = some (.slice 118) := by kernel_rfl
/-- What one instruction's reading answers. -/
def LnRet (w : World) (e : Ending) (w' : World) (R : Ln × Bool) : Prop :=
  ∃ v, e = .returned (.tuple #[.agg #[.string (St R.1.word), v], .bool R.2]) ∧ w'.ownsRow w.heap.size 118 7 v R.1.ops.length (opsFlat R.1.ops) ∧ Below w.heap.size w w'
/-- Where the outer loop stands. -/
structure OutAt (w wr : World) (p : Nat) (labels : List (Str × Int)) (vars : List (Str × (Int × Int))) (va vw : Value) (args : List Str) (ws : List (List Str)) : Prop where
  below : Below w.heap.size w wr
  env : Env wr
  names : Names wr p labels vars
  args : StrsAt wr va args
  ways : WaysAt wr vw ws
theorem OutAt.next {w wr w2 : World} {p : Nat} {labels : List (Str × Int)} {vars : List (Str × (Int × Int))} {va vw : Value} {args : List Str} {ws : List (List Str)} (h : OutAt w wr p labels vars va vw args ws) (hb : Below wr.heap.size wr w2) : OutAt w w2 p labels vars va vw args ws :=
  ⟨bstep h.below hb, h.env.below hb, h.names.below hb, h.args.below hb, h.ways.below hb⟩
set_option maxHeartbeats 1000000 in
set_option maxRecDepth 100000 in
theorem instruction_any (p : Nat) (s : ByteArray) (hs : s.size < 4294967281) (labels : List (Str × Int)) (vars : List (Str × (Int × Int))) (w : World) (E : Env w) (F : FormsAt w) (N : Names w p labels vars) :
    Calls Tryz.prog 26 #[.pointer (some ⟨p, 0, none⟩), .string s] w fun e w' => LnRet w e w' (instruction labels vars (bl s)) := by
  obtain ⟨R, hR⟩ : ∃ R, instruction labels vars (bl s) = R := ⟨_, rfl⟩
  rw [hR]
  unfold instruction at hR
  obtain ⟨c, hc⟩ : ∃ c, Lib.cut (bl s) [9] = c := ⟨_, rfl⟩
  obtain ⟨x, y, b⟩ := c
  have hle := cut_le (bl s) [9]
  rw [hc] at hR hle
  simp only at hR hle
  rw [bl_len] at hle
  obtain ⟨args, ha⟩ : ∃ l, split y = l := ⟨_, rfl⟩
  obtain ⟨ws, hw⟩ : ∃ l, X.ways x = l := ⟨_, rfl⟩
  have has : ∀ a ∈ args, a.length ≤ s.size := fun a h => by
    have := splitArgs_short (y.length + 1) y a (by rw [← ha] at h; exact h)
    omega
  have hwl := ways_len x
  have hwa := ways_ascii x
  have hws := ways_short x
  rw [hw] at hR hwl hwa hws
  rw [ha] at hR
  have HC := fun w E => Lib.hid (Cut_is s [9] x y b hs hc w E)
  have HS := fun w E => Lib.hid (split_any (St y) (by rw [St_size]; omega) w E)
  have HW := fun w F => Lib.hid (ways_any (St x) w F)
  rw [bl_St, ha] at HS
  rw [bl_St, hw] at HW
  clear ha hw hc
  have Lwf := Lib.hid hwa
  have Lws := Lib.hid hws
  have Las := Lib.hid has
  clear hwa hws has
  by_cases hby : b = true ∧ y.isEmpty = true
  · obtain ⟨rfl, hye⟩ := hby
    have hgR : Hid (R = (⟨[], []⟩, false)) := Lib.hid (by rw [← hR, hye]; rfl)
    clear hR HS HW
    go_enter Tryz.func26, Tryz.ntmps26
    go_wp2_with fail
    have X4 := Bx.new (w := w) (c := #[.string ⟨#[]⟩, .slice none 0 0]) (T := 75)
    have B0 := balloc (Below.refl w.heap.size w) (.cells #[.string ⟨#[]⟩, .slice none 0 0] 75)
    refine ((HC _ (E.below B0)).out).mono ?_
    rintro e w1 ⟨rfl, hb1⟩
    have X := X4.below hb1
    have hB := bstep B0 hb1
    have hx := X.cell
    have hf := X.frozen
    go_wp2_with fail
    have X1 : Bx ((w1.setCell ⟨w.heap.size, 0, none⟩ (.string ⟨#[]⟩)).setCell ⟨w.heap.size, 1, none⟩ (.slice none 0 0)) w.heap.size #[.string ⟨#[]⟩, .slice none 0 0] 75 := (X.set (i := 0) (v := .string ⟨#[]⟩)).set (i := 1) (v := .slice none 0 0)
    have hx1 := X1.cell
    exact bodyPost_ret (v := .tuple #[.agg #[.string ⟨#[]⟩, .slice none 0 0], .bool false]) (by simp [results, Tryz.results26, go_sem, hx1]) rfl ⟨_, by rw [hgR.out], by rw [hgR.out]; exact World.ownsRow_nil _ _ _ _, by (repeat' (first | with_reducible assumption | with_reducible exact Below.refl _ _ | (with_reducible refine below_drewN ?_ _) | (with_reducible refine Below.drew ?_) | (with_reducible refine balloc ?_ _) | (with_reducible refine Below.setCell ?_ (by first | exact Nat.le_refl _ | (simp; done) | omega | (simp; omega)) _) | (with_reducible refine bstep ?_ (by with_reducible assumption))))⟩
  · have hRR := Lib.hid (show tryWays labels vars x args ws = R by rw [← hR, if_neg (by simpa using hby)])
    clear hR
    have key : ∀ e, y.isEmpty = e → (b = true → e = false) → Calls Tryz.prog 26 #[.pointer (some ⟨p, 0, none⟩), .string s] w fun e w' => LnRet w e w' R := by
      intro e he hbe
      have he' : (St y).toList.isEmpty = e := by rw [← he, ByteArray.toList_eq]
      clear hby
      have hwb : (St x).size + 0 = x.length := rfl
      cases b with
      | false =>
        clear hbe he he'
        go_enter Tryz.func26, Tryz.ntmps26
        go_wp2_with fail
        have X4 := Bx.new (w := w) (c := #[.string ⟨#[]⟩, .slice none 0 0]) (T := 75)
        have B0 := balloc (Below.refl w.heap.size w) (.cells #[.string ⟨#[]⟩, .slice none 0 0] 75)
        refine ((HC _ (E.below B0)).out).mono ?_
        rintro e w1 ⟨rfl, hb1⟩
        have X4a := X4.below hb1
        have B1 := bstep B0 hb1
        go_wp2_with fail
        refine ((HS _ (E.below B1)).out).mono ?_
        rintro e w2 ⟨va, rfl, hva, hb2⟩
        have X4b := X4a.below hb2
        have B2 := bstep B1 hb2
        go_wp2_with fail
        refine ((HW _ (F.below B2)).out).mono ?_
        rintro e w3 ⟨vw, rfl, hvw, hb3⟩
        have X4c := X4b.below hb3
        have B3 := bstep B2 hb3
        have hA : StrsAt w3 va args := (strsAt_of hva).below hb3
        have O3 : OutAt w w3 p labels vars va vw args ws := ⟨B3, E.below B3, N.below B3, hA, hvw⟩
        clear X4 X4a X4b B0 B1 B2 B3 hb1 hb2 hb3 hva hA hvw HC HS HW E F N
        obtain ⟨ada, capa, rfl, -⟩ := O3.args
        obtain ⟨adw, capw, rfl, -⟩ := O3.ways
        go_wp2_with fail
        go_loopg [35] (ws.length + 1) (fun q v wr => ∃ i : Nat, v = .int .i64 i ∧ i ≤ ws.length ∧ q + i = ws.length + 1 ∧ OutAt w wr p labels vars (.slice ada args.length capa) (.slice adw ws.length capw) args ws ∧ Bx wr w.heap.size #[.string ⟨#[]⟩, .slice none 0 0] 75 ∧ Hid (tryWays labels vars x args (ws.drop i) = R))
        case atStart => exact ⟨0, rfl, by omega, rfl, O3, X4c, hRR⟩
        case round =>
          rename World => wo
          rename Nat => g1
          obtain ⟨i, rfl, hi, hq, O, X, hg⟩ := hrel
          clear hRR O3 X4c
          by_cases hlt : i < ws.length
          · obtain ⟨way, hway⟩ : ∃ a, ws.getD i [] = a := ⟨_, rfl⟩
            have hmem : way ∈ ws := by rw [← hway, List.getD_eq_getElem?_getD, List.getElem?_eq_getElem hlt]; simp
            have hg1 : tryWays labels vars x args (way :: ws.drop (i + 1)) = R := by rw [← hg.out, drop_getD' [] ws i hlt, hway]
            obtain ⟨ad, cap, hv, hcell⟩ := O.ways
            obtain ⟨rfl, -, rfl⟩ : adw = ad ∧ ws.length = ws.length ∧ capw = cap := by simpa using hv
            obtain ⟨bw, ow, rfl, hc2⟩ := hcell (by omega)
            obtain ⟨u, hu, hsu⟩ := hc2 i hlt
            rw [hway] at hsu
            obtain ⟨adu, capu, rfl, hcu'⟩ := hsu
            have hcu := Lib.hid hcu'
            clear hcu'
            have hf2 := Lws.out way hmem
            have hfa := Lib.hid (Lwf.out way hmem)
            clear hv hcell hc2 hg
            by_cases hne : way.length = args.length
            · have hn' : ((way.length : Int) == (args.length : Int)) = true := by rw [hne]; simp
              obtain ⟨T, hT⟩ : ∃ T, tryWay labels vars way args = T := ⟨_, rfl⟩
              have hg2 := Lib.hid (show (if T.2 then (⟨x, T.1⟩, true) else tryWays labels vars x args (ws.drop (i + 1))) = R by rw [← hg1, ← hT]; simp [tryWays, hne])
              have hne' := Lib.hid hne
              clear hg1 hne
              go_wp2_with fail
              rw [show ((way.length : Int) != (args.length : Int)) = false by unfold bne; rw [hn']; rfl]
              go_loopg [48, 13] (way.length + 1) (fun q v v2 wi => ∃ (k : Nat) (ok : Bool) (ops : List Opd) (vo : Value), v = .int .i64 k ∧ v2 = .bool ok ∧ k ≤ way.length ∧ q + k = way.length + 1 ∧ ops.length = k ∧ Below wo.heap.size wo wi ∧ Bx wi wo.heap.size #[.string (St x), vo] 75 ∧ wi.ownsRow (wo.heap.size + 1) 118 7 vo k (opsFlat ops) ∧ Hid (T = (ops ++ (tryWay labels vars (way.drop k) (args.drop k)).1, ok && (tryWay labels vars (way.drop k) (args.drop k)).2)))
              case atStart => exact ⟨0, true, [], .slice none 0 0, rfl, rfl, by omega, rfl, rfl, by (repeat' (first | with_reducible assumption | with_reducible exact Below.refl _ _ | (with_reducible refine below_drewN ?_ _) | (with_reducible refine Below.drew ?_) | (with_reducible refine balloc ?_ _) | (with_reducible refine Below.setCell ?_ (by first | exact Nat.le_refl _ | (simp; done) | omega | (simp; omega)) _) | (with_reducible refine bstep ?_ (by with_reducible assumption)))), Bx.new, World.ownsRow_nil _ _ _ _, Lib.hid (by rw [← hT]; simp)⟩
              case round =>
                obtain ⟨k, ok, ops, vo, rfl, rfl, hk, hqi, hol, hbi, X12, OW, hgi⟩ := hrel
                clear hT
                obtain ⟨ado, capo, rfl, -⟩ := ownsRow_at OW
                have O2 := O.next hbi
                have X2 := X.below hbi
                by_cases hlk : k < way.length
                · have hka : k < args.length := by rw [← hne'.out]; exact hlk
                  obtain ⟨bf, off_, hadu, hcf⟩ := hcu.out (by omega)
                  subst hadu
                  have hcf2 := cell_below hbi (hcf k hlk)
                  obtain ⟨ad2, cap2, hv2, hcell2⟩ := O2.args
                  obtain ⟨hv3, hv4⟩ : ada = ad2 ∧ capa = cap2 := by simpa using hv2
                  subst hv3 hv4
                  obtain ⟨ba, oa, hada, hca⟩ := hcell2 (by omega)
                  subst hada
                  have hca2 := hca k hka
                  obtain ⟨a, hea⟩ : ∃ a, args.getD k [] = a := ⟨_, rfl⟩
                  obtain ⟨f, hef⟩ : ∃ a, way.getD k [] = a := ⟨_, rfl⟩
                  obtain ⟨o, heo⟩ : ∃ o, take a f = o := ⟨_, rfl⟩
                  obtain ⟨o, b1⟩ := o
                  obtain ⟨kn, hkn⟩ : ∃ b, knows labels vars o = b := ⟨_, rfl⟩
                  obtain ⟨r, hr⟩ : ∃ r, tryWay labels vars (way.drop (k + 1)) (args.drop (k + 1)) = r := ⟨_, rfl⟩
                  have hgn := Lib.hid (show T = ((ops ++ [o]) ++ (tryWay labels vars (way.drop (k + 1)) (args.drop (k + 1))).1, (ok && b1 && kn) && (tryWay labels vars (way.drop (k + 1)) (args.drop (k + 1))).2) by
                    rw [hgi.out, drop_getD' [] way k hlk, drop_getD' [] args k hka, hea, hef]
                    simp only [tryWay, heo, hkn, List.append_assoc, List.singleton_append, Bool.and_assoc])
                  have hsa : (St a).size < 4294967281 := by
                    have : a ∈ args := by rw [← hea, List.getD_eq_getElem?_getD, List.getElem?_eq_getElem hka]; simp
                    have := Las.out a this
                    rw [St_size]; omega
                  have hsf : Ascii f := by
                    refine ascii_of (hfa.out f ?_)
                    rw [← hef, List.getD_eq_getElem?_getD, List.getElem?_eq_getElem hlk]; simp
                  have HT := fun w E => Lib.hid (take_any (St a) (St f) hsa hsf w E)
                  simp only [bl_St, heo] at HT
                  rw [hef] at hcf2
                  rw [hea] at hca2
                  have HK := fun w N => Lib.hid (knows_any p o labels vars w N)
                  rw [hkn] at HK
                  clear hv2 hcell2 hca hcf hgi hea hef heo hkn hr hsf hne'
                  have oc1 : ∀ u ∈ opCells o, u.oneCell' = true := by intro u hu; simp only [opCells, List.mem_cons, List.not_mem_nil, or_false] at hu; rcases hu with rfl | rfl | rfl | rfl | rfl | rfl | rfl <;> rfl
                  have hkl : k + 1 ≤ 4294967296 := by omega
                  have hon := hgn
                  have wol : wo.heap.size ≤ wr.heap.size := hbi.size
                  by_cases hob : ok = true ∧ b1 = true
                  · obtain ⟨rfl, rfl⟩ := hob
                    go_wp2_with fail
                    refine ((HT _ O2.env).out).mono ?_
                    rintro e w4 ⟨rfl, hb4⟩
                    have hw4 := hb4.size
                    have O4 := (O2.next hb4).next (balloc (Below.refl _ _) (.cells #[.int .i64 o.kind, .int .i64 o.reg, .int .i64 o.bytes, .int .i64 o.n, .int .i64 o.x, .int .i64 o.scale, .string (St o.name)] 118))
                    have X16 := Bx.new (w := w4) (c := #[.int .i64 o.kind, .int .i64 o.reg, .int .i64 o.bytes, .int .i64 o.n, .int .i64 o.x, .int .i64 o.scale, .string (St o.name)]) (T := 118)
                    have hx16 := X16.cell
                    have X12b := (X12.below hb4).alloc (o := .cells #[.int .i64 o.kind, .int .i64 o.reg, .int .i64 o.bytes, .int .i64 o.n, .int .i64 o.x, .int .i64 o.scale, .string (St o.name)] 118)
                    have OWb := (ownsRow_below OW hb4).alloc (.cells #[.int .i64 o.kind, .int .i64 o.reg, .int .i64 o.bytes, .int .i64 o.n, .int .i64 o.x, .int .i64 o.scale, .string (St o.name)] 118)
                    have B4 := balloc (bstep hbi hb4) (.cells #[.int .i64 o.kind, .int .i64 o.reg, .int .i64 o.bytes, .int .i64 o.n, .int .i64 o.x, .int .i64 o.scale, .string (St o.name)] 118)
                    go_wp2_with fail
                    refine ((HK _ O4.names).out).mono ?_
                    rintro e w5 ⟨rfl, hb5⟩
                    have hw5 := hb5.size
                    simp only [World.size_alloc] at hw5
                    have X16c := X16.below hb5
                    have hx16c := X16c.cell
                    have X12c := X12b.below hb5
                    have OWc := ownsRow_below OWb hb5
                    have B5 := bstep B4 hb5
                    clear X16 hx16 X12b OWb B4 hb5
                    have hxc := X12c.cell
                    have hfc := X12c.frozen
                    go_wp2_with (at_builtin; refine wpList_app1 rfl (.tmp 72) (.tmp 74) 73 rfl (wo.heap.size + 1) 118 _ 7 64 und73 info118 rfl (by decide) (.slice ado k capo) k (opsFlat ops) rfl (OWc.alloc _) (w5.heap.size) 1 (opCells o) rfl rfl (by intro j hj; have hq9 := Bx.new (w := w5) (c := #[.int .i64 o.kind, .int .i64 o.reg, .int .i64 o.bytes, .int .i64 o.n, .int .i64 o.x, .int .i64 o.scale, .string (St o.name)]) (T := 118); (try rw [World.size_alloc] at hq9); rw [hq9.cell j]; simp [opCells]) oc1 hkl (by decide) (by simp; omega) ?_)
                    intro v' w' O' G'
                    obtain ⟨adn, capn, rfl, -⟩ := ownsRow_at O'
                    have B' := bgrown (balloc B5 _) (OWc.alloc _) (Nat.le_succ _) G'
                    have X12d := (X12c.alloc (o := .cells #[.int .i64 o.kind, .int .i64 o.reg, .int .i64 o.bytes, .int .i64 o.n, .int .i64 o.x, .int .i64 o.scale, .string (St o.name)] 118)).grown G' (by intro e; have := (OWc.lt _ e).1; omega)
                    have hxd := X12d.cell
                    have hfd := X12d.frozen
                    clear hxc hfc
                    go_wp2_with fail
                    go_roundg (gk - 1)
                    case measure => omega
                    case rel => exact ⟨k + 1, kn, ops ++ [o], _, rfl, rfl, by omega, by omega, by simp [hol], by (repeat' (first | with_reducible assumption | with_reducible exact Below.refl _ _ | (with_reducible refine below_drewN ?_ _) | (with_reducible refine Below.drew ?_) | (with_reducible refine balloc ?_ _) | (with_reducible refine Below.setCell ?_ (by first | exact Nat.le_refl _ | (simp; done) | omega | (simp; omega)) _) | (with_reducible refine bstep ?_ (by with_reducible assumption)))), X12d.set, (by rw [opsFlat_app]; refine ownsRow_setCell O' ?_; intro j hj; have := (O'.lt j hj).1; simp only; omega), Lib.hid (by simpa using hgn.out)⟩
                  · have hob' : (ok && b1) = false := by cases ok <;> cases b1 <;> simp at hob ⊢
                    cases ok with
                    | false =>
                      go_wp2_with fail
                      refine ((HT _ O2.env).out).mono ?_
                      rintro e w5 ⟨rfl, hb4⟩
                      have hw5 := hb4.size
                      have X16c := Bx.new (w := w5) (c := #[.int .i64 o.kind, .int .i64 o.reg, .int .i64 o.bytes, .int .i64 o.n, .int .i64 o.x, .int .i64 o.scale, .string (St o.name)]) (T := 118)
                      have hx16c := X16c.cell
                      have X12c := (X12.below hb4).alloc (o := .cells #[.int .i64 o.kind, .int .i64 o.reg, .int .i64 o.bytes, .int .i64 o.n, .int .i64 o.x, .int .i64 o.scale, .string (St o.name)] 118)
                      have OWc := (ownsRow_below OW hb4).alloc (.cells #[.int .i64 o.kind, .int .i64 o.reg, .int .i64 o.bytes, .int .i64 o.n, .int .i64 o.x, .int .i64 o.scale, .string (St o.name)] 118)
                      have B5 := balloc (bstep hbi hb4) (.cells #[.int .i64 o.kind, .int .i64 o.reg, .int .i64 o.bytes, .int .i64 o.n, .int .i64 o.x, .int .i64 o.scale, .string (St o.name)] 118)
                      have hxc := X12c.cell
                      have hfc := X12c.frozen
                      go_wp2_with (at_builtin; refine wpList_app1 rfl (.tmp 72) (.tmp 74) 73 rfl (wo.heap.size + 1) 118 _ 7 64 und73 info118 rfl (by decide) (.slice ado k capo) k (opsFlat ops) rfl (OWc.alloc _) (w5.heap.size + 1) 1 (opCells o) rfl rfl (by intro j hj; have hq9 := Bx.new (w := (w5.alloc (.cells #[.int .i64 o.kind, .int .i64 o.reg, .int .i64 o.bytes, .int .i64 o.n, .int .i64 o.x, .int .i64 o.scale, .string (St o.name)] 118))) (c := #[.int .i64 o.kind, .int .i64 o.reg, .int .i64 o.bytes, .int .i64 o.n, .int .i64 o.x, .int .i64 o.scale, .string (St o.name)]) (T := 118); (try rw [World.size_alloc] at hq9); rw [hq9.cell j]; simp [opCells]) oc1 hkl (by decide) (by simp; omega) ?_)
                      intro v' w' O' G'
                      obtain ⟨adn, capn, rfl, -⟩ := ownsRow_at O'
                      have B' := bgrown (balloc B5 _) (OWc.alloc _) (Nat.le_succ _) G'
                      have X12d := (X12c.alloc (o := .cells #[.int .i64 o.kind, .int .i64 o.reg, .int .i64 o.bytes, .int .i64 o.n, .int .i64 o.x, .int .i64 o.scale, .string (St o.name)] 118)).grown G' (by intro e; have := (OWc.lt _ e).1; omega)
                      have hxd := X12d.cell
                      have hfd := X12d.frozen
                      clear hxc hfc
                      go_wp2_with fail
                      go_roundg (gk - 1)
                      case measure => omega
                      case rel => exact ⟨k + 1, false, ops ++ [o], _, rfl, rfl, by omega, by omega, by simp [hol], by (repeat' (first | with_reducible assumption | with_reducible exact Below.refl _ _ | (with_reducible refine below_drewN ?_ _) | (with_reducible refine Below.drew ?_) | (with_reducible refine balloc ?_ _) | (with_reducible refine Below.setCell ?_ (by first | exact Nat.le_refl _ | (simp; done) | omega | (simp; omega)) _) | (with_reducible refine bstep ?_ (by with_reducible assumption)))), X12d.set, (by rw [opsFlat_app]; refine ownsRow_setCell O' ?_; intro j hj; have := (O'.lt j hj).1; simp only; omega), Lib.hid (by simpa using hgn.out)⟩
                    | true =>
                      obtain rfl : b1 = false := by simpa using hob'
                      go_wp2_with fail
                      refine ((HT _ O2.env).out).mono ?_
                      rintro e w5 ⟨rfl, hb4⟩
                      have hw5 := hb4.size
                      have X16c := Bx.new (w := w5) (c := #[.int .i64 o.kind, .int .i64 o.reg, .int .i64 o.bytes, .int .i64 o.n, .int .i64 o.x, .int .i64 o.scale, .string (St o.name)]) (T := 118)
                      have hx16c := X16c.cell
                      have X12c := (X12.below hb4).alloc (o := .cells #[.int .i64 o.kind, .int .i64 o.reg, .int .i64 o.bytes, .int .i64 o.n, .int .i64 o.x, .int .i64 o.scale, .string (St o.name)] 118)
                      have OWc := (ownsRow_below OW hb4).alloc (.cells #[.int .i64 o.kind, .int .i64 o.reg, .int .i64 o.bytes, .int .i64 o.n, .int .i64 o.x, .int .i64 o.scale, .string (St o.name)] 118)
                      have B5 := balloc (bstep hbi hb4) (.cells #[.int .i64 o.kind, .int .i64 o.reg, .int .i64 o.bytes, .int .i64 o.n, .int .i64 o.x, .int .i64 o.scale, .string (St o.name)] 118)
                      have hxc := X12c.cell
                      have hfc := X12c.frozen
                      go_wp2_with (at_builtin; refine wpList_app1 rfl (.tmp 72) (.tmp 74) 73 rfl (wo.heap.size + 1) 118 _ 7 64 und73 info118 rfl (by decide) (.slice ado k capo) k (opsFlat ops) rfl (OWc.alloc _) (w5.heap.size + 1) 1 (opCells o) rfl rfl (by intro j hj; have hq9 := Bx.new (w := (w5.alloc (.cells #[.int .i64 o.kind, .int .i64 o.reg, .int .i64 o.bytes, .int .i64 o.n, .int .i64 o.x, .int .i64 o.scale, .string (St o.name)] 118))) (c := #[.int .i64 o.kind, .int .i64 o.reg, .int .i64 o.bytes, .int .i64 o.n, .int .i64 o.x, .int .i64 o.scale, .string (St o.name)]) (T := 118); (try rw [World.size_alloc] at hq9); rw [hq9.cell j]; simp [opCells]) oc1 hkl (by decide) (by simp; omega) ?_)
                      intro v' w' O' G'
                      obtain ⟨adn, capn, rfl, -⟩ := ownsRow_at O'
                      have B' := bgrown (balloc B5 _) (OWc.alloc _) (Nat.le_succ _) G'
                      have X12d := (X12c.alloc (o := .cells #[.int .i64 o.kind, .int .i64 o.reg, .int .i64 o.bytes, .int .i64 o.n, .int .i64 o.x, .int .i64 o.scale, .string (St o.name)] 118)).grown G' (by intro e; have := (OWc.lt _ e).1; omega)
                      have hxd := X12d.cell
                      have hfd := X12d.frozen
                      clear hxc hfc
                      go_wp2_with fail
                      go_roundg (gk - 1)
                      case measure => omega
                      case rel => exact ⟨k + 1, false, ops ++ [o], _, rfl, rfl, by omega, by omega, by simp [hol], by (repeat' (first | with_reducible assumption | with_reducible exact Below.refl _ _ | (with_reducible refine below_drewN ?_ _) | (with_reducible refine Below.drew ?_) | (with_reducible refine balloc ?_ _) | (with_reducible refine Below.setCell ?_ (by first | exact Nat.le_refl _ | (simp; done) | omega | (simp; omega)) _) | (with_reducible refine bstep ?_ (by with_reducible assumption)))), X12d.set, (by rw [opsFlat_app]; refine ownsRow_setCell O' ?_; intro j hj; have := (O'.lt j hj).1; simp only; omega), Lib.hid (by simpa using hgn.out)⟩
                · obtain rfl : k = way.length := (by omega)
                  have hT2 : T = (ops, ok) := by rw [hgi.out, List.drop_length]; simp [tryWay]
                  have hxa := X12.cell
                  have hxb := X2.cell
                  have hfb := X2.frozen
                  have hB := O2.below
                  have hgR := hg2
                  rw [hT2] at hgR
                  clear hg2 hgi hT2
                  cases ok with
                  | true =>
                    go_wp2_with fail
                    have X3 : Bx ((wr.setCell ⟨w.heap.size, 0, none⟩ (.string (St x))).setCell ⟨w.heap.size, 1, none⟩ (.slice ado way.length capo)) w.heap.size #[.string (St x), .slice ado way.length capo] 75 := (X2.set (i := 0) (v := .string (St x))).set (i := 1) (v := .slice ado way.length capo)
                    have hx3 := X3.cell
                    have hlw := O.below.size
                    have hgS : Hid (R = (⟨x, ops⟩, true)) := Lib.hid hgR.out.symm
                    have OW2 : ((wr.setCell ⟨w.heap.size, 0, none⟩ (.string (St x))).setCell ⟨w.heap.size, 1, none⟩ (.slice ado way.length capo)).ownsRow w.heap.size 118 7 (.slice ado way.length capo) ops.length (opsFlat ops) := by
                      rw [hol]
                      refine ownsRow_mono (ownsRow_setCell (ownsRow_setCell OW ?_) ?_) (by omega) <;> (intro k hk; have := (OW.lt k hk).1; simp only; omega)
                    clear OW X12 X2 X hgR
                    exact bodyPost_ret (v := .tuple #[.agg #[.string (St x), .slice ado way.length capo], .bool true]) (by simp [results, Tryz.results26, go_sem, hx3]) rfl ⟨_, by rw [hgS.out], by rw [hgS.out]; exact OW2, by (repeat' (first | with_reducible assumption | with_reducible exact Below.refl _ _ | (with_reducible refine below_drewN ?_ _) | (with_reducible refine Below.drew ?_) | (with_reducible refine balloc ?_ _) | (with_reducible refine Below.setCell ?_ (by first | exact Nat.le_refl _ | (simp; done) | omega | (simp; omega)) _) | (with_reducible refine bstep ?_ (by with_reducible assumption))))⟩
                  | false =>
                    have hgS := Lib.hid (show tryWays labels vars x args (ws.drop (i + 1)) = R from hgR.out)
                    clear hgR OW
                    go_wp2_with fail
                    go_roundg (g1 - 1)
                    case measure => omega
                    case rel => exact ⟨i + 1, rfl, by omega, by omega, O2, X2, hgS⟩
            · have hn' : ((way.length : Int) == (args.length : Int)) = false := beq_f (by omega)
              have hg2 := Lib.hid (show tryWays labels vars x args (ws.drop (i + 1)) = R by rw [← hg1]; simp [tryWays, hne])
              clear hg1
              go_wp2_with fail
              go_roundg (g1 - 1)
              case measure => omega
              case rel => exact ⟨i + 1, rfl, by omega, by omega, O, X, hg2⟩
          · obtain rfl : i = ws.length := (by omega)
            have hx := X.cell
            have hf := X.frozen
            have hgR : Hid (R = (⟨[], []⟩, false)) := Lib.hid (by rw [← hg.out, List.drop_length]; rfl)
            have hB := O.below
            go_wp2_with fail
            have X1 : Bx ((wo.setCell ⟨w.heap.size, 0, none⟩ (.string ⟨#[]⟩)).setCell ⟨w.heap.size, 1, none⟩ (.slice none 0 0)) w.heap.size #[.string ⟨#[]⟩, .slice none 0 0] 75 := (X.set (i := 0) (v := .string ⟨#[]⟩)).set (i := 1) (v := .slice none 0 0)
            have hx1 := X1.cell
            exact bodyPost_ret (v := .tuple #[.agg #[.string ⟨#[]⟩, .slice none 0 0], .bool false]) (by simp [results, Tryz.results26, go_sem, hx1]) rfl ⟨_, by rw [hgR.out], by rw [hgR.out]; exact World.ownsRow_nil _ _ _ _, by (repeat' (first | with_reducible assumption | with_reducible exact Below.refl _ _ | (with_reducible refine below_drewN ?_ _) | (with_reducible refine Below.drew ?_) | (with_reducible refine balloc ?_ _) | (with_reducible refine Below.setCell ?_ (by first | exact Nat.le_refl _ | (simp; done) | omega | (simp; omega)) _) | (with_reducible refine bstep ?_ (by with_reducible assumption))))⟩
      | true =>
        obtain rfl := hbe rfl
        clear hbe
        go_enter Tryz.func26, Tryz.ntmps26
        go_wp2_with fail
        have X4 := Bx.new (w := w) (c := #[.string ⟨#[]⟩, .slice none 0 0]) (T := 75)
        have B0 := balloc (Below.refl w.heap.size w) (.cells #[.string ⟨#[]⟩, .slice none 0 0] 75)
        refine ((HC _ (E.below B0)).out).mono ?_
        rintro e w1 ⟨rfl, hb1⟩
        have X4a := X4.below hb1
        have B1 := bstep B0 hb1
        go_wp2_with fail
        refine ((HS _ (E.below B1)).out).mono ?_
        rintro e w2 ⟨va, rfl, hva, hb2⟩
        have X4b := X4a.below hb2
        have B2 := bstep B1 hb2
        go_wp2_with fail
        refine ((HW _ (F.below B2)).out).mono ?_
        rintro e w3 ⟨vw, rfl, hvw, hb3⟩
        have X4c := X4b.below hb3
        have B3 := bstep B2 hb3
        have hA : StrsAt w3 va args := (strsAt_of hva).below hb3
        have O3 : OutAt w w3 p labels vars va vw args ws := ⟨B3, E.below B3, N.below B3, hA, hvw⟩
        clear X4 X4a X4b B0 B1 B2 B3 hb1 hb2 hb3 hva hA hvw HC HS HW E F N
        obtain ⟨ada, capa, rfl, -⟩ := O3.args
        obtain ⟨adw, capw, rfl, -⟩ := O3.ways
        go_wp2_with fail
        go_loopg [35] (ws.length + 1) (fun q v wr => ∃ i : Nat, v = .int .i64 i ∧ i ≤ ws.length ∧ q + i = ws.length + 1 ∧ OutAt w wr p labels vars (.slice ada args.length capa) (.slice adw ws.length capw) args ws ∧ Bx wr w.heap.size #[.string ⟨#[]⟩, .slice none 0 0] 75 ∧ Hid (tryWays labels vars x args (ws.drop i) = R))
        case atStart => exact ⟨0, rfl, by omega, rfl, O3, X4c, hRR⟩
        case round =>
          rename World => wo
          rename Nat => g1
          obtain ⟨i, rfl, hi, hq, O, X, hg⟩ := hrel
          clear hRR O3 X4c
          by_cases hlt : i < ws.length
          · obtain ⟨way, hway⟩ : ∃ a, ws.getD i [] = a := ⟨_, rfl⟩
            have hmem : way ∈ ws := by rw [← hway, List.getD_eq_getElem?_getD, List.getElem?_eq_getElem hlt]; simp
            have hg1 : tryWays labels vars x args (way :: ws.drop (i + 1)) = R := by rw [← hg.out, drop_getD' [] ws i hlt, hway]
            obtain ⟨ad, cap, hv, hcell⟩ := O.ways
            obtain ⟨rfl, -, rfl⟩ : adw = ad ∧ ws.length = ws.length ∧ capw = cap := by simpa using hv
            obtain ⟨bw, ow, rfl, hc2⟩ := hcell (by omega)
            obtain ⟨u, hu, hsu⟩ := hc2 i hlt
            rw [hway] at hsu
            obtain ⟨adu, capu, rfl, hcu'⟩ := hsu
            have hcu := Lib.hid hcu'
            clear hcu'
            have hf2 := Lws.out way hmem
            have hfa := Lib.hid (Lwf.out way hmem)
            clear hv hcell hc2 hg
            by_cases hne : way.length = args.length
            · have hn' : ((way.length : Int) == (args.length : Int)) = true := by rw [hne]; simp
              obtain ⟨T, hT⟩ : ∃ T, tryWay labels vars way args = T := ⟨_, rfl⟩
              have hg2 := Lib.hid (show (if T.2 then (⟨x, T.1⟩, true) else tryWays labels vars x args (ws.drop (i + 1))) = R by rw [← hg1, ← hT]; simp [tryWays, hne])
              have hne' := Lib.hid hne
              clear hg1 hne
              go_wp2_with fail
              rw [show ((way.length : Int) != (args.length : Int)) = false by unfold bne; rw [hn']; rfl]
              go_loopg [48, 13] (way.length + 1) (fun q v v2 wi => ∃ (k : Nat) (ok : Bool) (ops : List Opd) (vo : Value), v = .int .i64 k ∧ v2 = .bool ok ∧ k ≤ way.length ∧ q + k = way.length + 1 ∧ ops.length = k ∧ Below wo.heap.size wo wi ∧ Bx wi wo.heap.size #[.string (St x), vo] 75 ∧ wi.ownsRow (wo.heap.size + 1) 118 7 vo k (opsFlat ops) ∧ Hid (T = (ops ++ (tryWay labels vars (way.drop k) (args.drop k)).1, ok && (tryWay labels vars (way.drop k) (args.drop k)).2)))
              case atStart => exact ⟨0, true, [], .slice none 0 0, rfl, rfl, by omega, rfl, rfl, by (repeat' (first | with_reducible assumption | with_reducible exact Below.refl _ _ | (with_reducible refine below_drewN ?_ _) | (with_reducible refine Below.drew ?_) | (with_reducible refine balloc ?_ _) | (with_reducible refine Below.setCell ?_ (by first | exact Nat.le_refl _ | (simp; done) | omega | (simp; omega)) _) | (with_reducible refine bstep ?_ (by with_reducible assumption)))), Bx.new, World.ownsRow_nil _ _ _ _, Lib.hid (by rw [← hT]; simp)⟩
              case round =>
                obtain ⟨k, ok, ops, vo, rfl, rfl, hk, hqi, hol, hbi, X12, OW, hgi⟩ := hrel
                clear hT
                obtain ⟨ado, capo, rfl, -⟩ := ownsRow_at OW
                have O2 := O.next hbi
                have X2 := X.below hbi
                by_cases hlk : k < way.length
                · have hka : k < args.length := by rw [← hne'.out]; exact hlk
                  obtain ⟨bf, off_, hadu, hcf⟩ := hcu.out (by omega)
                  subst hadu
                  have hcf2 := cell_below hbi (hcf k hlk)
                  obtain ⟨ad2, cap2, hv2, hcell2⟩ := O2.args
                  obtain ⟨hv3, hv4⟩ : ada = ad2 ∧ capa = cap2 := by simpa using hv2
                  subst hv3 hv4
                  obtain ⟨ba, oa, hada, hca⟩ := hcell2 (by omega)
                  subst hada
                  have hca2 := hca k hka
                  obtain ⟨a, hea⟩ : ∃ a, args.getD k [] = a := ⟨_, rfl⟩
                  obtain ⟨f, hef⟩ : ∃ a, way.getD k [] = a := ⟨_, rfl⟩
                  obtain ⟨o, heo⟩ : ∃ o, take a f = o := ⟨_, rfl⟩
                  obtain ⟨o, b1⟩ := o
                  obtain ⟨kn, hkn⟩ : ∃ b, knows labels vars o = b := ⟨_, rfl⟩
                  obtain ⟨r, hr⟩ : ∃ r, tryWay labels vars (way.drop (k + 1)) (args.drop (k + 1)) = r := ⟨_, rfl⟩
                  have hgn := Lib.hid (show T = ((ops ++ [o]) ++ (tryWay labels vars (way.drop (k + 1)) (args.drop (k + 1))).1, (ok && b1 && kn) && (tryWay labels vars (way.drop (k + 1)) (args.drop (k + 1))).2) by
                    rw [hgi.out, drop_getD' [] way k hlk, drop_getD' [] args k hka, hea, hef]
                    simp only [tryWay, heo, hkn, List.append_assoc, List.singleton_append, Bool.and_assoc])
                  have hsa : (St a).size < 4294967281 := by
                    have : a ∈ args := by rw [← hea, List.getD_eq_getElem?_getD, List.getElem?_eq_getElem hka]; simp
                    have := Las.out a this
                    rw [St_size]; omega
                  have hsf : Ascii f := by
                    refine ascii_of (hfa.out f ?_)
                    rw [← hef, List.getD_eq_getElem?_getD, List.getElem?_eq_getElem hlk]; simp
                  have HT := fun w E => Lib.hid (take_any (St a) (St f) hsa hsf w E)
                  simp only [bl_St, heo] at HT
                  rw [hef] at hcf2
                  rw [hea] at hca2
                  have HK := fun w N => Lib.hid (knows_any p o labels vars w N)
                  rw [hkn] at HK
                  clear hv2 hcell2 hca hcf hgi hea hef heo hkn hr hsf hne'
                  have oc1 : ∀ u ∈ opCells o, u.oneCell' = true := by intro u hu; simp only [opCells, List.mem_cons, List.not_mem_nil, or_false] at hu; rcases hu with rfl | rfl | rfl | rfl | rfl | rfl | rfl <;> rfl
                  have hkl : k + 1 ≤ 4294967296 := by omega
                  have hon := hgn
                  have wol : wo.heap.size ≤ wr.heap.size := hbi.size
                  by_cases hob : ok = true ∧ b1 = true
                  · obtain ⟨rfl, rfl⟩ := hob
                    go_wp2_with fail
                    refine ((HT _ O2.env).out).mono ?_
                    rintro e w4 ⟨rfl, hb4⟩
                    have hw4 := hb4.size
                    have O4 := (O2.next hb4).next (balloc (Below.refl _ _) (.cells #[.int .i64 o.kind, .int .i64 o.reg, .int .i64 o.bytes, .int .i64 o.n, .int .i64 o.x, .int .i64 o.scale, .string (St o.name)] 118))
                    have X16 := Bx.new (w := w4) (c := #[.int .i64 o.kind, .int .i64 o.reg, .int .i64 o.bytes, .int .i64 o.n, .int .i64 o.x, .int .i64 o.scale, .string (St o.name)]) (T := 118)
                    have hx16 := X16.cell
                    have X12b := (X12.below hb4).alloc (o := .cells #[.int .i64 o.kind, .int .i64 o.reg, .int .i64 o.bytes, .int .i64 o.n, .int .i64 o.x, .int .i64 o.scale, .string (St o.name)] 118)
                    have OWb := (ownsRow_below OW hb4).alloc (.cells #[.int .i64 o.kind, .int .i64 o.reg, .int .i64 o.bytes, .int .i64 o.n, .int .i64 o.x, .int .i64 o.scale, .string (St o.name)] 118)
                    have B4 := balloc (bstep hbi hb4) (.cells #[.int .i64 o.kind, .int .i64 o.reg, .int .i64 o.bytes, .int .i64 o.n, .int .i64 o.x, .int .i64 o.scale, .string (St o.name)] 118)
                    go_wp2_with fail
                    refine ((HK _ O4.names).out).mono ?_
                    rintro e w5 ⟨rfl, hb5⟩
                    have hw5 := hb5.size
                    simp only [World.size_alloc] at hw5
                    have X16c := X16.below hb5
                    have hx16c := X16c.cell
                    have X12c := X12b.below hb5
                    have OWc := ownsRow_below OWb hb5
                    have B5 := bstep B4 hb5
                    clear X16 hx16 X12b OWb B4 hb5
                    have hxc := X12c.cell
                    have hfc := X12c.frozen
                    go_wp2_with (at_builtin; refine wpList_app1 rfl (.tmp 72) (.tmp 74) 73 rfl (wo.heap.size + 1) 118 _ 7 64 und73 info118 rfl (by decide) (.slice ado k capo) k (opsFlat ops) rfl (OWc.alloc _) (w5.heap.size) 1 (opCells o) rfl rfl (by intro j hj; have hq9 := Bx.new (w := w5) (c := #[.int .i64 o.kind, .int .i64 o.reg, .int .i64 o.bytes, .int .i64 o.n, .int .i64 o.x, .int .i64 o.scale, .string (St o.name)]) (T := 118); (try rw [World.size_alloc] at hq9); rw [hq9.cell j]; simp [opCells]) oc1 hkl (by decide) (by simp; omega) ?_)
                    intro v' w' O' G'
                    obtain ⟨adn, capn, rfl, -⟩ := ownsRow_at O'
                    have B' := bgrown (balloc B5 _) (OWc.alloc _) (Nat.le_succ _) G'
                    have X12d := (X12c.alloc (o := .cells #[.int .i64 o.kind, .int .i64 o.reg, .int .i64 o.bytes, .int .i64 o.n, .int .i64 o.x, .int .i64 o.scale, .string (St o.name)] 118)).grown G' (by intro e; have := (OWc.lt _ e).1; omega)
                    have hxd := X12d.cell
                    have hfd := X12d.frozen
                    clear hxc hfc
                    go_wp2_with fail
                    go_roundg (gk - 1)
                    case measure => omega
                    case rel => exact ⟨k + 1, kn, ops ++ [o], _, rfl, rfl, by omega, by omega, by simp [hol], by (repeat' (first | with_reducible assumption | with_reducible exact Below.refl _ _ | (with_reducible refine below_drewN ?_ _) | (with_reducible refine Below.drew ?_) | (with_reducible refine balloc ?_ _) | (with_reducible refine Below.setCell ?_ (by first | exact Nat.le_refl _ | (simp; done) | omega | (simp; omega)) _) | (with_reducible refine bstep ?_ (by with_reducible assumption)))), X12d.set, (by rw [opsFlat_app]; refine ownsRow_setCell O' ?_; intro j hj; have := (O'.lt j hj).1; simp only; omega), Lib.hid (by simpa using hgn.out)⟩
                  · have hob' : (ok && b1) = false := by cases ok <;> cases b1 <;> simp at hob ⊢
                    cases ok with
                    | false =>
                      go_wp2_with fail
                      refine ((HT _ O2.env).out).mono ?_
                      rintro e w5 ⟨rfl, hb4⟩
                      have hw5 := hb4.size
                      have X16c := Bx.new (w := w5) (c := #[.int .i64 o.kind, .int .i64 o.reg, .int .i64 o.bytes, .int .i64 o.n, .int .i64 o.x, .int .i64 o.scale, .string (St o.name)]) (T := 118)
                      have hx16c := X16c.cell
                      have X12c := (X12.below hb4).alloc (o := .cells #[.int .i64 o.kind, .int .i64 o.reg, .int .i64 o.bytes, .int .i64 o.n, .int .i64 o.x, .int .i64 o.scale, .string (St o.name)] 118)
                      have OWc := (ownsRow_below OW hb4).alloc (.cells #[.int .i64 o.kind, .int .i64 o.reg, .int .i64 o.bytes, .int .i64 o.n, .int .i64 o.x, .int .i64 o.scale, .string (St o.name)] 118)
                      have B5 := balloc (bstep hbi hb4) (.cells #[.int .i64 o.kind, .int .i64 o.reg, .int .i64 o.bytes, .int .i64 o.n, .int .i64 o.x, .int .i64 o.scale, .string (St o.name)] 118)
                      have hxc := X12c.cell
                      have hfc := X12c.frozen
                      go_wp2_with (at_builtin; refine wpList_app1 rfl (.tmp 72) (.tmp 74) 73 rfl (wo.heap.size + 1) 118 _ 7 64 und73 info118 rfl (by decide) (.slice ado k capo) k (opsFlat ops) rfl (OWc.alloc _) (w5.heap.size + 1) 1 (opCells o) rfl rfl (by intro j hj; have hq9 := Bx.new (w := (w5.alloc (.cells #[.int .i64 o.kind, .int .i64 o.reg, .int .i64 o.bytes, .int .i64 o.n, .int .i64 o.x, .int .i64 o.scale, .string (St o.name)] 118))) (c := #[.int .i64 o.kind, .int .i64 o.reg, .int .i64 o.bytes, .int .i64 o.n, .int .i64 o.x, .int .i64 o.scale, .string (St o.name)]) (T := 118); (try rw [World.size_alloc] at hq9); rw [hq9.cell j]; simp [opCells]) oc1 hkl (by decide) (by simp; omega) ?_)
                      intro v' w' O' G'
                      obtain ⟨adn, capn, rfl, -⟩ := ownsRow_at O'
                      have B' := bgrown (balloc B5 _) (OWc.alloc _) (Nat.le_succ _) G'
                      have X12d := (X12c.alloc (o := .cells #[.int .i64 o.kind, .int .i64 o.reg, .int .i64 o.bytes, .int .i64 o.n, .int .i64 o.x, .int .i64 o.scale, .string (St o.name)] 118)).grown G' (by intro e; have := (OWc.lt _ e).1; omega)
                      have hxd := X12d.cell
                      have hfd := X12d.frozen
                      clear hxc hfc
                      go_wp2_with fail
                      go_roundg (gk - 1)
                      case measure => omega
                      case rel => exact ⟨k + 1, false, ops ++ [o], _, rfl, rfl, by omega, by omega, by simp [hol], by (repeat' (first | with_reducible assumption | with_reducible exact Below.refl _ _ | (with_reducible refine below_drewN ?_ _) | (with_reducible refine Below.drew ?_) | (with_reducible refine balloc ?_ _) | (with_reducible refine Below.setCell ?_ (by first | exact Nat.le_refl _ | (simp; done) | omega | (simp; omega)) _) | (with_reducible refine bstep ?_ (by with_reducible assumption)))), X12d.set, (by rw [opsFlat_app]; refine ownsRow_setCell O' ?_; intro j hj; have := (O'.lt j hj).1; simp only; omega), Lib.hid (by simpa using hgn.out)⟩
                    | true =>
                      obtain rfl : b1 = false := by simpa using hob'
                      go_wp2_with fail
                      refine ((HT _ O2.env).out).mono ?_
                      rintro e w5 ⟨rfl, hb4⟩
                      have hw5 := hb4.size
                      have X16c := Bx.new (w := w5) (c := #[.int .i64 o.kind, .int .i64 o.reg, .int .i64 o.bytes, .int .i64 o.n, .int .i64 o.x, .int .i64 o.scale, .string (St o.name)]) (T := 118)
                      have hx16c := X16c.cell
                      have X12c := (X12.below hb4).alloc (o := .cells #[.int .i64 o.kind, .int .i64 o.reg, .int .i64 o.bytes, .int .i64 o.n, .int .i64 o.x, .int .i64 o.scale, .string (St o.name)] 118)
                      have OWc := (ownsRow_below OW hb4).alloc (.cells #[.int .i64 o.kind, .int .i64 o.reg, .int .i64 o.bytes, .int .i64 o.n, .int .i64 o.x, .int .i64 o.scale, .string (St o.name)] 118)
                      have B5 := balloc (bstep hbi hb4) (.cells #[.int .i64 o.kind, .int .i64 o.reg, .int .i64 o.bytes, .int .i64 o.n, .int .i64 o.x, .int .i64 o.scale, .string (St o.name)] 118)
                      have hxc := X12c.cell
                      have hfc := X12c.frozen
                      go_wp2_with (at_builtin; refine wpList_app1 rfl (.tmp 72) (.tmp 74) 73 rfl (wo.heap.size + 1) 118 _ 7 64 und73 info118 rfl (by decide) (.slice ado k capo) k (opsFlat ops) rfl (OWc.alloc _) (w5.heap.size + 1) 1 (opCells o) rfl rfl (by intro j hj; have hq9 := Bx.new (w := (w5.alloc (.cells #[.int .i64 o.kind, .int .i64 o.reg, .int .i64 o.bytes, .int .i64 o.n, .int .i64 o.x, .int .i64 o.scale, .string (St o.name)] 118))) (c := #[.int .i64 o.kind, .int .i64 o.reg, .int .i64 o.bytes, .int .i64 o.n, .int .i64 o.x, .int .i64 o.scale, .string (St o.name)]) (T := 118); (try rw [World.size_alloc] at hq9); rw [hq9.cell j]; simp [opCells]) oc1 hkl (by decide) (by simp; omega) ?_)
                      intro v' w' O' G'
                      obtain ⟨adn, capn, rfl, -⟩ := ownsRow_at O'
                      have B' := bgrown (balloc B5 _) (OWc.alloc _) (Nat.le_succ _) G'
                      have X12d := (X12c.alloc (o := .cells #[.int .i64 o.kind, .int .i64 o.reg, .int .i64 o.bytes, .int .i64 o.n, .int .i64 o.x, .int .i64 o.scale, .string (St o.name)] 118)).grown G' (by intro e; have := (OWc.lt _ e).1; omega)
                      have hxd := X12d.cell
                      have hfd := X12d.frozen
                      clear hxc hfc
                      go_wp2_with fail
                      go_roundg (gk - 1)
                      case measure => omega
                      case rel => exact ⟨k + 1, false, ops ++ [o], _, rfl, rfl, by omega, by omega, by simp [hol], by (repeat' (first | with_reducible assumption | with_reducible exact Below.refl _ _ | (with_reducible refine below_drewN ?_ _) | (with_reducible refine Below.drew ?_) | (with_reducible refine balloc ?_ _) | (with_reducible refine Below.setCell ?_ (by first | exact Nat.le_refl _ | (simp; done) | omega | (simp; omega)) _) | (with_reducible refine bstep ?_ (by with_reducible assumption)))), X12d.set, (by rw [opsFlat_app]; refine ownsRow_setCell O' ?_; intro j hj; have := (O'.lt j hj).1; simp only; omega), Lib.hid (by simpa using hgn.out)⟩
                · obtain rfl : k = way.length := (by omega)
                  have hT2 : T = (ops, ok) := by rw [hgi.out, List.drop_length]; simp [tryWay]
                  have hxa := X12.cell
                  have hxb := X2.cell
                  have hfb := X2.frozen
                  have hB := O2.below
                  have hgR := hg2
                  rw [hT2] at hgR
                  clear hg2 hgi hT2
                  cases ok with
                  | true =>
                    go_wp2_with fail
                    have X3 : Bx ((wr.setCell ⟨w.heap.size, 0, none⟩ (.string (St x))).setCell ⟨w.heap.size, 1, none⟩ (.slice ado way.length capo)) w.heap.size #[.string (St x), .slice ado way.length capo] 75 := (X2.set (i := 0) (v := .string (St x))).set (i := 1) (v := .slice ado way.length capo)
                    have hx3 := X3.cell
                    have hlw := O.below.size
                    have hgS : Hid (R = (⟨x, ops⟩, true)) := Lib.hid hgR.out.symm
                    have OW2 : ((wr.setCell ⟨w.heap.size, 0, none⟩ (.string (St x))).setCell ⟨w.heap.size, 1, none⟩ (.slice ado way.length capo)).ownsRow w.heap.size 118 7 (.slice ado way.length capo) ops.length (opsFlat ops) := by
                      rw [hol]
                      refine ownsRow_mono (ownsRow_setCell (ownsRow_setCell OW ?_) ?_) (by omega) <;> (intro k hk; have := (OW.lt k hk).1; simp only; omega)
                    clear OW X12 X2 X hgR
                    exact bodyPost_ret (v := .tuple #[.agg #[.string (St x), .slice ado way.length capo], .bool true]) (by simp [results, Tryz.results26, go_sem, hx3]) rfl ⟨_, by rw [hgS.out], by rw [hgS.out]; exact OW2, by (repeat' (first | with_reducible assumption | with_reducible exact Below.refl _ _ | (with_reducible refine below_drewN ?_ _) | (with_reducible refine Below.drew ?_) | (with_reducible refine balloc ?_ _) | (with_reducible refine Below.setCell ?_ (by first | exact Nat.le_refl _ | (simp; done) | omega | (simp; omega)) _) | (with_reducible refine bstep ?_ (by with_reducible assumption))))⟩
                  | false =>
                    have hgS := Lib.hid (show tryWays labels vars x args (ws.drop (i + 1)) = R from hgR.out)
                    clear hgR OW
                    go_wp2_with fail
                    go_roundg (g1 - 1)
                    case measure => omega
                    case rel => exact ⟨i + 1, rfl, by omega, by omega, O2, X2, hgS⟩
            · have hn' : ((way.length : Int) == (args.length : Int)) = false := beq_f (by omega)
              have hg2 := Lib.hid (show tryWays labels vars x args (ws.drop (i + 1)) = R by rw [← hg1]; simp [tryWays, hne])
              clear hg1
              go_wp2_with fail
              go_roundg (g1 - 1)
              case measure => omega
              case rel => exact ⟨i + 1, rfl, by omega, by omega, O, X, hg2⟩
          · obtain rfl : i = ws.length := (by omega)
            have hx := X.cell
            have hf := X.frozen
            have hgR : Hid (R = (⟨[], []⟩, false)) := Lib.hid (by rw [← hg.out, List.drop_length]; rfl)
            have hB := O.below
            go_wp2_with fail
            have X1 : Bx ((wo.setCell ⟨w.heap.size, 0, none⟩ (.string ⟨#[]⟩)).setCell ⟨w.heap.size, 1, none⟩ (.slice none 0 0)) w.heap.size #[.string ⟨#[]⟩, .slice none 0 0] 75 := (X.set (i := 0) (v := .string ⟨#[]⟩)).set (i := 1) (v := .slice none 0 0)
            have hx1 := X1.cell
            exact bodyPost_ret (v := .tuple #[.agg #[.string ⟨#[]⟩, .slice none 0 0], .bool false]) (by simp [results, Tryz.results26, go_sem, hx1]) rfl ⟨_, by rw [hgR.out], by rw [hgR.out]; exact World.ownsRow_nil _ _ _ _, by (repeat' (first | with_reducible assumption | with_reducible exact Below.refl _ _ | (with_reducible refine below_drewN ?_ _) | (with_reducible refine Below.drew ?_) | (with_reducible refine balloc ?_ _) | (with_reducible refine Below.setCell ?_ (by first | exact Nat.le_refl _ | (simp; done) | omega | (simp; omega)) _) | (with_reducible refine bstep ?_ (by with_reducible assumption))))⟩
    exact key _ rfl (by
      intro h1
      cases h2 : y.isEmpty
      · rfl
      · exact absurd ⟨h1, h2⟩ hby)
end Go.Proofs.YtfkfdffhajokkaaGreatDoor
