/- What package x86's gathering of names answers; conditions: at most 1048576 lines, each shorter than 2^32 less 15 bytes, the library's variables as they begin. -/
import Derived.Test.YtfkfdffhajokkaaGreatDoorA15
import Derived.Test.YtfkfdffhajokkaaGreatDoorA16
import Derived.Deep.LoopGhost
namespace Go.Proofs.YtfkfdffhajokkaaGreatDoor
open Go.RowKit X
set_option linter.unusedSimpArgs false
theorem datum_dry (labels : List (Str × Int)) (vars : List (Str × (Int × Int))) (data : List UInt8) (s : Str) : (datum labels vars data false s).2 = (datum labels vars [] false s).2 := by
  unfold datum
  simp only
  split
  · rfl
  · split
    · rfl
    · split <;> rfl
theorem datum_look (p : Nat) (s : ByteArray) (hs : s.size < 4294967281) (labels : List (Str × Int)) (vars : List (Str × (Int × Int))) (N : Nat) (w : World) (E : Env w) (Nm : Names w p labels vars) (HL : LabOk labels) (HV : VarOk vars N) :
    Calls Tryz.prog 28 #[.pointer (some ⟨p, 0, none⟩), .string s, .bool false] w fun e w' => e = .returned (.bool (datum labels vars [] false (bl s)).2) ∧ Below w.heap.size w w' := by
  by_cases hd : (splitOn 32 (bl s)).headD [] = ([46, 100, 97, 116, 97] : Str)
  · have h : (datum labels vars [] false (bl s)).2 = dataSize (splitOn 32 (bl s)) := by unfold datum; rw [if_pos hd]
    rw [h]
    exact datum_size p s hs false w E hd
  · refine (datum_cell p 0 s hs false labels vars (List.replicate N 0) w E Nm HL (by rw [List.length_replicate]; exact HV) (by intro h; cases h) hd).mono ?_
    rintro e w' ⟨rfl, hb, _⟩
    exact ⟨by rw [datum_dry], hb rfl⟩
theorem und23 : Tryz.prog.underlying 23 = some (.slice 5) := by kernel_rfl
theorem info5 : (Tryz.prog.info? 5).map (fun i => (i.zero, i.size, i.bytes)) = some (some (.int .u8 0), 1, 1) := by kernel_rfl
theorem make_bytes (w : World) (n : Int) (h0 : 0 ≤ n) (h1 : n ≤ 281474976710656) :
    (Instr.makeSlice 23 (.int .i64 n) (.int .i64 n)).run Tryz.prog w = .ok (.slice (some ⟨w.heap.size, 0, none⟩) n.toNat n.toNat) (w.alloc (.cells (byteV (List.replicate n.toNat 0)) 5)) := by
  obtain ⟨i, hi, hz0, hz1, hz2⟩ := info_parts info5
  have h := run_make (P := Tryz.prog) w 23 5 i _ und23 hi hz0 .i64 .i64 n n h0 (Int.le_refl _) (by rw [hz2]; omega) (by omega)
  rw [h, hz1, Nat.mul_one]
  have e : madeCells #[.int .u8 0] n.toNat = byteV (List.replicate n.toNat 0) := by
    apply Array.ext'
    rw [toList_madeCells_one]
    simp [byteV]
  rw [← e]
  rfl
def spanFlat (l : List (Int × Int)) : List Value := l.flatMap fun v => [.int .i64 v.1, .int .i64 v.2]
theorem spanFlat_app (l : List (Int × Int)) (v : Int × Int) : spanFlat (l ++ [v]) = spanFlat l ++ [.int .i64 v.1, .int .i64 v.2] := by simp [spanFlat]
theorem info110 : (Tryz.prog.info? 110).map (fun i => (i.zero, i.size, i.bytes)) = some (some (.agg #[.int .i64 0, .int .i64 0]), 2, 16) := by kernel_rfl
theorem und66 : Tryz.prog.underlying 66 = some (.slice 110) := by kernel_rfl
theorem labV_app (l : List (Str × Int)) (n : Str) (v : Int) : labV (l ++ [(n, v)]) = labV l ++ [(.string (St n), .int .i64 v)] := by simp [labV]
theorem varV_app (l : List (Str × (Int × Int))) (n : Str) (v : Int × Int) : varV (l ++ [(n, v)]) = varV l ++ [(.string (St n), Pv v)] := by simp [varV]
/-- Where the gathering stands. -/
structure GAt (w wr : World) (p r1 r2 : Nat) (text : ByteArray) (g : Gt) (vs : Value) : Prop where
  kp : Kp [p, r1, r2] w wr
  box : Bx wr p #[.string text, .slice none 0 0, .map (some r1), .map (some r2), .slice none 0 0, vs] 68
  lab : MapAt wr r1 (labV g.labels)
  var : MapAt wr r2 (varV g.vars)
  row : wr.ownsRow w.heap.size 110 2 vs g.spans.length (spanFlat g.spans)
theorem GAt.names {w wr : World} {p r1 r2 : Nat} {text : ByteArray} {g : Gt} {vs : Value} (h : GAt w wr p r1 r2 text g vs) : Names wr p g.labels g.vars :=
  ⟨r1, r2, by rw [h.box.cell]; rfl, h.lab, by rw [h.box.cell]; rfl, h.var⟩
theorem GAt.below {w wr w2 : World} {p r1 r2 : Nat} {text : ByteArray} {g : Gt} {vs : Value} (h : GAt w wr p r1 r2 text g vs) (hb : Below wr.heap.size wr w2) : GAt w w2 p r1 r2 text g vs :=
  ⟨h.kp.below hb, h.box.below hb, h.lab.below hb, h.var.below hb, ownsRow_below h.row hb⟩
/-- What gathering leaves. -/
def GatRet (w : World) (p r1 r2 : Nat) (text : ByteArray) (e : Ending) (w' : World) (g : Gt) : Prop :=
  e = .returned (.int .i64 g.twice) ∧ ∃ vs d n, n = (g.at_ - 65536).toNat ∧ w.heap.size ≤ d ∧ Kp [p, r1, r2] w w' ∧ Bx w' p #[.string text, .slice none 0 0, .map (some r1), .map (some r2), .slice (some ⟨d, 0, none⟩) n n, vs] 68 ∧
    MapAt w' r1 (labV g.labels) ∧ MapAt w' r2 (varV g.vars) ∧ w'.ownsRow w.heap.size 110 2 vs g.spans.length (spanFlat g.spans) ∧ Bx w' d (byteV (List.replicate n 0)) 5
set_option maxHeartbeats 2000000 in
set_option maxRecDepth 100000 in
theorem gather_any (p r1 r2 bL cap : Nat) (text : ByteArray) (ls : List Str) (hn : ls.length ≤ 1048576) (hsz : ∀ x ∈ ls, x.length < 4294967281) (w : World) (E : Env w) (h9p : 9 ≤ p) (h9r : 9 ≤ r1) (h9s : 9 ≤ r2) (hr12 : r1 ≠ r2)
    (HS : StrsAt w (.slice (some ⟨bL, 0, none⟩) ls.length cap) ls) (hL : bL ∉ [p, r1, r2])
    (X : Bx w p #[.string text, .slice none 0 0, .map (some r1), .map (some r2), .slice none 0 0, .slice none 0 0] 68) (M1 : MapAt w r1 []) (M2 : MapAt w r2 []) :
    Calls Tryz.prog 24 #[.pointer (some ⟨p, 0, none⟩), .slice (some ⟨bL, 0, none⟩) ls.length cap] w fun e w' => GatRet w p r1 r2 text e w' (gather 0 ls gather0) := by
  obtain ⟨G, hG⟩ : ∃ G, gather 0 ls gather0 = G := ⟨_, rfl⟩
  rw [hG]
  have hG := Lib.hid hG
  have hsz := Lib.hid hsz
  have hL := Lib.hid hL
  have HS := Lib.hid HS
  have h9 : ∀ k, k ∈ [p, r1, r2] → 9 ≤ k := by intro k hk; simp only [List.mem_cons, List.not_mem_nil, or_false] at hk; omega
  have h9 := Lib.hid h9
  have hpr1 := X.ne_map M1
  have hpr2 := X.ne_map M2
  have hpw := X.lt
  have hrw1 := M1.lt
  have hrw2 := M2.lt
  have GA : GAt w w p r1 r2 text gather0 (.slice none 0 0) := ⟨Kp.refl _ _, X, M1, M2, World.ownsRow_nil _ _ _ _⟩
  clear h9p h9r h9s X M1 M2
  go_enter Tryz.func24, Tryz.ntmps24
  go_wp2_with fail
  go_loopg [5, 6, 7, 21] (ls.length + 1) (fun q vk vt va vi wr => ∃ (i : Nat) (g : Gt) (vs : Value), vk = .int .i64 g.k ∧ vt = .int .i64 g.twice ∧ va = .int .i64 g.at_ ∧ vi = .int .i64 i ∧ i ≤ ls.length ∧ q + i = ls.length + 1 ∧ Hid (gather i (ls.drop i) g = G) ∧ GOk g i ∧ GAt w wr p r1 r2 text g vs)
  case atStart => exact ⟨0, gather0, _, rfl, rfl, rfl, rfl, by omega, rfl, hG, GOk.start, GA⟩
  case round =>
    obtain ⟨i, g, vs, rfl, rfl, rfl, rfl, hi, hq, hg, ok, A⟩ := hrel
    clear hG GA
    by_cases hlt : i < ls.length
    · obtain ⟨x, hx⟩ : ∃ x, ls.getD i [] = x := ⟨_, rfl⟩
      have hmem : x ∈ ls := by rw [← hx, List.getD_eq_getElem?_getD, List.getElem?_eq_getElem hlt]; simp
      have hg1 := Lib.hid (show gather (i + 1) (ls.drop (i + 1)) (gatherLine g i x) = G by rw [← hg.out, drop_getD' [] ls i hlt, hx]; rfl)
      have ok1 := ok.line x
      have hz : (St x).size < 4294967281 := by rw [St_size]; exact hsz.out x hmem
      have hcl : wr.cell? ⟨bL, i, none⟩ = some (.string (St x)) := by
        obtain ⟨ad, cp, e, h2⟩ := HS.out
        cases e
        obtain ⟨b, o, e, h3⟩ := h2 (by omega)
        cases e
        have := A.kp.cell (h3 i hlt) hL.out
        rw [Nat.zero_add, hx] at this
        exact this
      have Er := E.kp A.kp h9.out
      obtain ⟨tb, htb⟩ : ∃ b, Lib.hasPrefix x [9] = b := ⟨_, rfl⟩
      have HP := fun w => Lib.hid (HasPrefix_is (St x) [9] tb htb w)
      obtain ⟨lb, hlb⟩ : ∃ b, isLabel x = b := ⟨_, rfl⟩
      obtain ⟨name, isl⟩ := lb
      have HI : ∀ w, Hid _ := fun w => Lib.hid (isLabel_any (St x) hz w)
      simp only [bl_St, hlb] at HI
      obtain ⟨db, hdb⟩ : ∃ b, (datum g.labels g.vars [] false x).2 = b := ⟨_, rfl⟩
      have hLab : LabOk g.labels := fun n v h => by have := ok.lab n v h; omega
      have hVar : VarOk g.vars (g.at_ - 65536).toNat := fun n v h => by have := ok.var n v h; have := ok.a0; omega
      have HD : ∀ w E N, Hid _ := fun w E N => Lib.hid (datum_look p (St x) hz g.labels g.vars _ w E N hLab hVar)
      simp only [bl_St, hdb] at HD
      obtain ⟨pb, hpb⟩ : ∃ b, Lib.hasPrefix x ([46, 100, 97, 116, 97, 32] : Str) = b := ⟨_, rfl⟩
      have HQ := fun w => Lib.hid (HasPrefix_is (St x) ([46, 100, 97, 116, 97, 32] : Str) pb hpb w)
      have okk := ok.k1
      have okk0 := ok.k0
      have oka := ok.a1
      have oka0 := ok.a0
      have okt := ok.t0
      have okt1 := ok.t1
      have hpl := A.box.lt
      have hle := A.kp.size
      have hx1 := A.box.cell
      have hf1 := A.box.frozen
      clear hg hLab hVar hx hmem
      have hHG := HS
      cases tb with
      | true =>
        have hgl : gatherLine g i x = { g with k := g.k + 1 } := by unfold gatherLine; rw [htb]; rfl
        rw [hgl] at hg1 ok1
        clear htb hlb hdb hpb HI HD HQ hgl
        go_wp2_with fail
        refine ((HP _).out).mono ?_
        rintro e w1 ⟨rfl, rfl⟩
        go_wp2_with fail
        go_roundg (gk - 1)
        case measure => omega
        case rel => exact ⟨i + 1, { g with k := g.k + 1 }, vs, rfl, rfl, rfl, rfl, by omega, by omega, hg1, ok1, ⟨A.kp, A.box, A.lab, A.var, A.row⟩⟩
      | false =>
        cases isl with
        | true =>
          have hgl : gatherLine g i x = gatherName g i name (-1) := by unfold gatherLine; rw [htb, hlb]; rfl
          rw [hgl] at hg1 ok1
          clear htb hlb hdb hpb HD HQ hgl
          have hL1 := lab_run A.lab ⟨name.toArray⟩
          have hL2 := var_run A.var ⟨name.toArray⟩
          rw [show bl ⟨name.toArray⟩ = name from rfl] at hL1 hL2
          obtain ⟨la, hla⟩ : ∃ a, g.labels.lookup name = a := ⟨_, rfl⟩
          obtain ⟨lv, hlv⟩ : ∃ a, g.vars.lookup name = a := ⟨_, rfl⟩
          rw [hla] at hL1
          rw [hlv] at hL2
          unfold gatherName at hg1 ok1
          rw [hla, hlv] at hg1 ok1
          go_wp2_with fail
          refine ((HP _).out).mono ?_
          rintro e w1 ⟨rfl, rfl⟩
          go_wp2_with fail
          refine ((HI _).out).mono ?_
          rintro e w1 ⟨rfl, rfl⟩
          cases la with
          | some a =>
            by_cases ht : g.twice < 0
            · have hg2 : Hid (gather (i + 1) (ls.drop (i + 1)) { g with twice := i } = G) := Lib.hid (by have := hg1.out; simpa [ht] using this)
              have ok2 : GOk { g with twice := i } (i + 1) := by simpa [ht] using ok1
              clear hg1 ok1
              go_wp2_with fail
              go_roundg (gk - 1)
              case measure => omega
              case rel => exact ⟨i + 1, { g with twice := i }, vs, rfl, rfl, rfl, rfl, by omega, by omega, hg2, ok2, ⟨A.kp.below (by (repeat' (first | with_reducible assumption | with_reducible exact Below.refl _ _ | (with_reducible refine below_drewN ?_ _) | (with_reducible refine Below.drew ?_) | (with_reducible refine balloc ?_ _) | (with_reducible refine Below.setCell ?_ (by first | exact Nat.le_refl _ | (simp; done) | omega | (simp; omega)) _) | (with_reducible refine bstep ?_ (by with_reducible assumption))))), A.box.below (by (repeat' (first | with_reducible assumption | with_reducible exact Below.refl _ _ | (with_reducible refine below_drewN ?_ _) | (with_reducible refine Below.drew ?_) | (with_reducible refine balloc ?_ _) | (with_reducible refine Below.setCell ?_ (by first | exact Nat.le_refl _ | (simp; done) | omega | (simp; omega)) _) | (with_reducible refine bstep ?_ (by with_reducible assumption))))), A.lab.below (by (repeat' (first | with_reducible assumption | with_reducible exact Below.refl _ _ | (with_reducible refine below_drewN ?_ _) | (with_reducible refine Below.drew ?_) | (with_reducible refine balloc ?_ _) | (with_reducible refine Below.setCell ?_ (by first | exact Nat.le_refl _ | (simp; done) | omega | (simp; omega)) _) | (with_reducible refine bstep ?_ (by with_reducible assumption))))), A.var.below (by (repeat' (first | with_reducible assumption | with_reducible exact Below.refl _ _ | (with_reducible refine below_drewN ?_ _) | (with_reducible refine Below.drew ?_) | (with_reducible refine balloc ?_ _) | (with_reducible refine Below.setCell ?_ (by first | exact Nat.le_refl _ | (simp; done) | omega | (simp; omega)) _) | (with_reducible refine bstep ?_ (by with_reducible assumption))))), ownsRow_below A.row (by (repeat' (first | with_reducible assumption | with_reducible exact Below.refl _ _ | (with_reducible refine below_drewN ?_ _) | (with_reducible refine Below.drew ?_) | (with_reducible refine balloc ?_ _) | (with_reducible refine Below.setCell ?_ (by first | exact Nat.le_refl _ | (simp; done) | omega | (simp; omega)) _) | (with_reducible refine bstep ?_ (by with_reducible assumption)))))⟩⟩
            · have hg2 : Hid (gather (i + 1) (ls.drop (i + 1)) g = G) := Lib.hid (by have := hg1.out; simpa [ht] using this)
              have ok2 : GOk g (i + 1) := by simpa [ht] using ok1
              clear hg1 ok1
              go_wp2_with fail
              go_roundg (gk - 1)
              case measure => omega
              case rel => exact ⟨i + 1, g, vs, rfl, rfl, rfl, rfl, by omega, by omega, hg2, ok2, A.below (by (repeat' (first | with_reducible assumption | with_reducible exact Below.refl _ _ | (with_reducible refine below_drewN ?_ _) | (with_reducible refine Below.drew ?_) | (with_reducible refine balloc ?_ _) | (with_reducible refine Below.setCell ?_ (by first | exact Nat.le_refl _ | (simp; done) | omega | (simp; omega)) _) | (with_reducible refine bstep ?_ (by with_reducible assumption)))))⟩
          | none =>
            cases lv with
            | some a =>
              by_cases ht : g.twice < 0
              · have hg2 : Hid (gather (i + 1) (ls.drop (i + 1)) { g with twice := i } = G) := Lib.hid (by have := hg1.out; simpa [ht] using this)
                have ok2 : GOk { g with twice := i } (i + 1) := by simpa [ht] using ok1
                clear hg1 ok1
                go_wp2_with fail
                go_roundg (gk - 1)
                case measure => omega
                case rel => exact ⟨i + 1, { g with twice := i }, vs, rfl, rfl, rfl, rfl, by omega, by omega, hg2, ok2, ⟨A.kp.below (by (repeat' (first | with_reducible assumption | with_reducible exact Below.refl _ _ | (with_reducible refine below_drewN ?_ _) | (with_reducible refine Below.drew ?_) | (with_reducible refine balloc ?_ _) | (with_reducible refine Below.setCell ?_ (by first | exact Nat.le_refl _ | (simp; done) | omega | (simp; omega)) _) | (with_reducible refine bstep ?_ (by with_reducible assumption))))), A.box.below (by (repeat' (first | with_reducible assumption | with_reducible exact Below.refl _ _ | (with_reducible refine below_drewN ?_ _) | (with_reducible refine Below.drew ?_) | (with_reducible refine balloc ?_ _) | (with_reducible refine Below.setCell ?_ (by first | exact Nat.le_refl _ | (simp; done) | omega | (simp; omega)) _) | (with_reducible refine bstep ?_ (by with_reducible assumption))))), A.lab.below (by (repeat' (first | with_reducible assumption | with_reducible exact Below.refl _ _ | (with_reducible refine below_drewN ?_ _) | (with_reducible refine Below.drew ?_) | (with_reducible refine balloc ?_ _) | (with_reducible refine Below.setCell ?_ (by first | exact Nat.le_refl _ | (simp; done) | omega | (simp; omega)) _) | (with_reducible refine bstep ?_ (by with_reducible assumption))))), A.var.below (by (repeat' (first | with_reducible assumption | with_reducible exact Below.refl _ _ | (with_reducible refine below_drewN ?_ _) | (with_reducible refine Below.drew ?_) | (with_reducible refine balloc ?_ _) | (with_reducible refine Below.setCell ?_ (by first | exact Nat.le_refl _ | (simp; done) | omega | (simp; omega)) _) | (with_reducible refine bstep ?_ (by with_reducible assumption))))), ownsRow_below A.row (by (repeat' (first | with_reducible assumption | with_reducible exact Below.refl _ _ | (with_reducible refine below_drewN ?_ _) | (with_reducible refine Below.drew ?_) | (with_reducible refine balloc ?_ _) | (with_reducible refine Below.setCell ?_ (by first | exact Nat.le_refl _ | (simp; done) | omega | (simp; omega)) _) | (with_reducible refine bstep ?_ (by with_reducible assumption)))))⟩⟩
              · have hg2 : Hid (gather (i + 1) (ls.drop (i + 1)) g = G) := Lib.hid (by have := hg1.out; simpa [ht] using this)
                have ok2 : GOk g (i + 1) := by simpa [ht] using ok1
                clear hg1 ok1
                go_wp2_with fail
                go_roundg (gk - 1)
                case measure => omega
                case rel => exact ⟨i + 1, g, vs, rfl, rfl, rfl, rfl, by omega, by omega, hg2, ok2, A.below (by (repeat' (first | with_reducible assumption | with_reducible exact Below.refl _ _ | (with_reducible refine below_drewN ?_ _) | (with_reducible refine Below.drew ?_) | (with_reducible refine balloc ?_ _) | (with_reducible refine Below.setCell ?_ (by first | exact Nat.le_refl _ | (simp; done) | omega | (simp; omega)) _) | (with_reducible refine bstep ?_ (by with_reducible assumption)))))⟩
            | none =>
              have hg2 : Hid (gather (i + 1) (ls.drop (i + 1)) { g with labels := g.labels ++ [(name, g.k)] } = G) := Lib.hid (by have := hg1.out; simpa using this)
              have ok2 : GOk { g with labels := g.labels ++ [(name, g.k)] } (i + 1) := by simpa using ok1
              have hn1 : lookV (labV g.labels) (.string ⟨name.toArray⟩) = none := by
                have := lookV_str (fun n => .int .i64 n) g.labels ⟨name.toArray⟩
                rw [show bl ⟨name.toArray⟩ = name from rfl, hla] at this
                exact this
              have hn1 := Lib.hid hn1
              have hK := Lib.hid (keysOk_str (fun n => .int .i64 n) g.labels)
              have hat := A.lab.alloc A.lab.lt (.cells #[.int .i64 0, .int .i64 0] 110)
              have hat := Lib.hid hat
              clear hg1 ok1
              go_wp2_with (at_mapUpdate; refine wpList_new rfl (.tmp 114) (.tmp 115) (.tmp 116) 63 (.inr rfl) 9 3 .string und63 und9 r1 (labV g.labels) rfl hat.out hK.out (.string ⟨name.toArray⟩) (.int .i64 g.k) rfl rfl (.str _) hn1.out ?_; intro w5 hat5 hk5 hm5)
              go_roundg (gk - 1)
              case measure => omega
              case rel =>
                have A2 := A.below (balloc (Below.refl _ wr) (.cells #[.int .i64 0, .int .i64 0] 110))
                have hpl2 := A2.box.lt
                refine ⟨i + 1, { g with labels := g.labels ++ [(name, g.k)] }, vs, rfl, rfl, rfl, rfl, by omega, by omega, hg2, ok2, ⟨A2.kp.mapped hm5 (.inl (by simp)), A2.box.of_block (hm5.block p hpr1), by rw [labV_app]; exact hat5, A2.var.of_block (hm5.block r2 hr12.symm), ownsRow_of_block A2.row fun k hk => hm5.block k ?_⟩⟩
                have := (A2.row.lt k hk).1
                have := hrw1
                omega
        | false =>
          cases db with
          | false =>
            have hgl : gatherLine g i x = g := by unfold gatherLine; rw [htb, hlb, hdb]; rfl
            rw [hgl] at hg1 ok1
            clear htb hlb hdb hpb HQ hgl
            go_wp2_with fail
            refine ((HP _).out).mono ?_
            rintro e w1 ⟨rfl, rfl⟩
            go_wp2_with fail
            refine ((HI _).out).mono ?_
            rintro e w1 ⟨rfl, rfl⟩
            go_wp2_with fail
            refine ((HD _ Er A.names).out).mono ?_
            rintro e w2 ⟨rfl, hb2⟩
            have A2 := A.below hb2
            clear hx1 hf1 HP HI HD
            go_wp2_with fail
            go_roundg (gk - 1)
            case measure => omega
            case rel => exact ⟨i + 1, g, vs, rfl, rfl, rfl, rfl, by omega, by omega, hg1, ok1, A2⟩
          | true =>
            cases pb with
            | false =>
              have hgl : gatherLine g i x = g := by unfold gatherLine; rw [htb, hlb, hdb, hpb]; rfl
              rw [hgl] at hg1 ok1
              clear htb hlb hdb hpb hgl
              go_wp2_with fail
              refine ((HP _).out).mono ?_
              rintro e w1 ⟨rfl, rfl⟩
              go_wp2_with fail
              refine ((HI _).out).mono ?_
              rintro e w1 ⟨rfl, rfl⟩
              go_wp2_with fail
              refine ((HD _ Er A.names).out).mono ?_
              rintro e w2 ⟨rfl, hb2⟩
              have A2 := A.below hb2
              clear hx1 hf1 HP HI HD
              go_wp2_with fail
              refine ((HQ _).out).mono ?_
              rintro e w1 ⟨rfl, rfl⟩
              go_wp2_with fail
              go_roundg (gk - 1)
              case measure => omega
              case rel => exact ⟨i + 1, g, vs, rfl, rfl, rfl, rfl, by omega, by omega, hg1, ok1, A2⟩
            | true =>
              have hds := datum_sized hdb hpb
              unfold dataSize at hds
              obtain ⟨l, hl⟩ : ∃ l, splitOn 32 x = l := ⟨_, rfl⟩
              rw [hl] at hds
              simp only [Bool.and_eq_true, decide_eq_true_eq] at hds
              obtain ⟨⟨⟨⟨hl3, hnum⟩, -⟩, hm1⟩, hm2⟩ := hds
              obtain ⟨name1, hp1⟩ : ∃ p, l.getD 1 [] = p := ⟨_, rfl⟩
              obtain ⟨p2, hp2⟩ : ∃ p, l.getD 2 [] = p := ⟨_, rfl⟩
              have hc1 : (strCells l)[1]? = some (.string (St name1)) := by rw [← hp1]; exact strCells_cell l 1 (by omega)
              have hc2 : (strCells l)[2]? = some (.string (St p2)) := by rw [← hp2]; exact strCells_cell l 2 (by omega)
              have hz2 : (St p2).size < 4294967281 := by
                have := getD_le 32 x 2
                rw [hl, hp2] at this
                rw [St_size] at hz ⊢; omega
              rw [hp2] at hnum hm1 hm2
              have hat := number_32_ok hnum
              obtain ⟨m, hm⟩ : ∃ m, (number p2 32).1 = m := ⟨_, rfl⟩
              rw [hm] at hat hm1 hm2
              have hgl : gatherLine g i x = gatherName g i name1 m := by unfold gatherLine; rw [htb, hlb, hdb, hpb, hl, hp1, hp2, hm]; rfl
              rw [hgl] at hg1 ok1
              have HS2 := fun w E => Lib.hid (Split_is (St x) 32 l l.length hz hl rfl w E)
              have HAt := fun w => Lib.hid (Tryz.strconv_Atoi_ok (St p2) (by omega) m hat w)
              clear htb hlb hdb hpb hgl hl hp1 hp2 hm hat hnum hz2
              go_wp2_with fail
              refine ((HP _).out).mono ?_
              rintro e w1 ⟨rfl, rfl⟩
              go_wp2_with fail
              refine ((HI _).out).mono ?_
              rintro e w1 ⟨rfl, rfl⟩
              go_wp2_with fail
              refine ((HD _ Er A.names).out).mono ?_
              rintro e w2 ⟨rfl, hb2⟩
              have A2 := A.below hb2
              have Er2 := Er.below hb2
              clear hx1 hf1 HP HI HD
              go_wp2_with fail
              refine ((HQ _).out).mono ?_
              rintro e w1 ⟨rfl, rfl⟩
              go_wp2_with fail
              refine ((HS2 _ Er2).out).mono ?_
              rintro e w3 ⟨rfl, rfl⟩
              have A3 := A2.below (balloc (Below.refl _ w2) (.cells (strCells l) 9))
              have hxs := (Bx.new (w := w2) (c := strCells l) (T := 9)).cell
              have l1 : 1 < l.length := by omega
              have l2 : 2 < l.length := by omega
              clear A2 Er Er2 HS2
              go_wp2_with fail
              refine ((HAt _).out).mono ?_
              rintro e w4 ⟨rfl, hw4⟩
              have hb4 : Below (w2.alloc (.cells (strCells l) 9)).heap.size (w2.alloc (.cells (strCells l) 9)) w4 := by
                rcases hw4 with rfl | ⟨t, rfl⟩
                · exact Below.refl _ _
                · exact Lib.bytesWorld_below _ _ _
              clear hw4
              have A4 := A3.below hb4
              clear A A3 hxs hb4 HAt
              have A := A4
              clear A4
              have hx1 := A.box.cell
              have hf1 := A.box.frozen
              have hpl4 := A.box.lt
              have hle4 := A.kp.size
              have hL1 := lab_run A.lab (St name1)
              have hL2 := var_run A.var (St name1)
              rw [bl_St] at hL1 hL2
              obtain ⟨la, hla⟩ : ∃ a, g.labels.lookup name1 = a := ⟨_, rfl⟩
              obtain ⟨lv, hlv⟩ : ∃ a, g.vars.lookup name1 = a := ⟨_, rfl⟩
              rw [hla] at hL1
              rw [hlv] at hL2
              unfold gatherName at hg1 ok1
              rw [hla, hlv] at hg1 ok1
              cases la with
              | some a =>
                by_cases ht : g.twice < 0
                · have hg2 : Hid (gather (i + 1) (ls.drop (i + 1)) { g with twice := i } = G) := Lib.hid (by have := hg1.out; simpa [ht] using this)
                  have ok2 : GOk { g with twice := i } (i + 1) := by simpa [ht] using ok1
                  clear hg1 ok1
                  go_wp2_with fail
                  go_roundg (gk - 1)
                  case measure => omega
                  case rel => exact ⟨i + 1, { g with twice := i }, vs, rfl, rfl, rfl, rfl, by omega, by omega, hg2, ok2, ⟨A.kp.below (by (repeat' (first | with_reducible assumption | with_reducible exact Below.refl _ _ | (with_reducible refine below_drewN ?_ _) | (with_reducible refine Below.drew ?_) | (with_reducible refine balloc ?_ _) | (with_reducible refine Below.setCell ?_ (by first | exact Nat.le_refl _ | (simp; done) | omega | (simp; omega)) _) | (with_reducible refine bstep ?_ (by with_reducible assumption))))), A.box.below (by (repeat' (first | with_reducible assumption | with_reducible exact Below.refl _ _ | (with_reducible refine below_drewN ?_ _) | (with_reducible refine Below.drew ?_) | (with_reducible refine balloc ?_ _) | (with_reducible refine Below.setCell ?_ (by first | exact Nat.le_refl _ | (simp; done) | omega | (simp; omega)) _) | (with_reducible refine bstep ?_ (by with_reducible assumption))))), A.lab.below (by (repeat' (first | with_reducible assumption | with_reducible exact Below.refl _ _ | (with_reducible refine below_drewN ?_ _) | (with_reducible refine Below.drew ?_) | (with_reducible refine balloc ?_ _) | (with_reducible refine Below.setCell ?_ (by first | exact Nat.le_refl _ | (simp; done) | omega | (simp; omega)) _) | (with_reducible refine bstep ?_ (by with_reducible assumption))))), A.var.below (by (repeat' (first | with_reducible assumption | with_reducible exact Below.refl _ _ | (with_reducible refine below_drewN ?_ _) | (with_reducible refine Below.drew ?_) | (with_reducible refine balloc ?_ _) | (with_reducible refine Below.setCell ?_ (by first | exact Nat.le_refl _ | (simp; done) | omega | (simp; omega)) _) | (with_reducible refine bstep ?_ (by with_reducible assumption))))), ownsRow_below A.row (by (repeat' (first | with_reducible assumption | with_reducible exact Below.refl _ _ | (with_reducible refine below_drewN ?_ _) | (with_reducible refine Below.drew ?_) | (with_reducible refine balloc ?_ _) | (with_reducible refine Below.setCell ?_ (by first | exact Nat.le_refl _ | (simp; done) | omega | (simp; omega)) _) | (with_reducible refine bstep ?_ (by with_reducible assumption)))))⟩⟩
                · have hg2 : Hid (gather (i + 1) (ls.drop (i + 1)) g = G) := Lib.hid (by have := hg1.out; simpa [ht] using this)
                  have ok2 : GOk g (i + 1) := by simpa [ht] using ok1
                  clear hg1 ok1
                  go_wp2_with fail
                  go_roundg (gk - 1)
                  case measure => omega
                  case rel => exact ⟨i + 1, g, vs, rfl, rfl, rfl, rfl, by omega, by omega, hg2, ok2, A.below (by (repeat' (first | with_reducible assumption | with_reducible exact Below.refl _ _ | (with_reducible refine below_drewN ?_ _) | (with_reducible refine Below.drew ?_) | (with_reducible refine balloc ?_ _) | (with_reducible refine Below.setCell ?_ (by first | exact Nat.le_refl _ | (simp; done) | omega | (simp; omega)) _) | (with_reducible refine bstep ?_ (by with_reducible assumption)))))⟩
              | none =>
                cases lv with
                | some a =>
                  by_cases ht : g.twice < 0
                  · have hg2 : Hid (gather (i + 1) (ls.drop (i + 1)) { g with twice := i } = G) := Lib.hid (by have := hg1.out; simpa [ht] using this)
                    have ok2 : GOk { g with twice := i } (i + 1) := by simpa [ht] using ok1
                    clear hg1 ok1
                    go_wp2_with fail
                    go_roundg (gk - 1)
                    case measure => omega
                    case rel => exact ⟨i + 1, { g with twice := i }, vs, rfl, rfl, rfl, rfl, by omega, by omega, hg2, ok2, ⟨A.kp.below (by (repeat' (first | with_reducible assumption | with_reducible exact Below.refl _ _ | (with_reducible refine below_drewN ?_ _) | (with_reducible refine Below.drew ?_) | (with_reducible refine balloc ?_ _) | (with_reducible refine Below.setCell ?_ (by first | exact Nat.le_refl _ | (simp; done) | omega | (simp; omega)) _) | (with_reducible refine bstep ?_ (by with_reducible assumption))))), A.box.below (by (repeat' (first | with_reducible assumption | with_reducible exact Below.refl _ _ | (with_reducible refine below_drewN ?_ _) | (with_reducible refine Below.drew ?_) | (with_reducible refine balloc ?_ _) | (with_reducible refine Below.setCell ?_ (by first | exact Nat.le_refl _ | (simp; done) | omega | (simp; omega)) _) | (with_reducible refine bstep ?_ (by with_reducible assumption))))), A.lab.below (by (repeat' (first | with_reducible assumption | with_reducible exact Below.refl _ _ | (with_reducible refine below_drewN ?_ _) | (with_reducible refine Below.drew ?_) | (with_reducible refine balloc ?_ _) | (with_reducible refine Below.setCell ?_ (by first | exact Nat.le_refl _ | (simp; done) | omega | (simp; omega)) _) | (with_reducible refine bstep ?_ (by with_reducible assumption))))), A.var.below (by (repeat' (first | with_reducible assumption | with_reducible exact Below.refl _ _ | (with_reducible refine below_drewN ?_ _) | (with_reducible refine Below.drew ?_) | (with_reducible refine balloc ?_ _) | (with_reducible refine Below.setCell ?_ (by first | exact Nat.le_refl _ | (simp; done) | omega | (simp; omega)) _) | (with_reducible refine bstep ?_ (by with_reducible assumption))))), ownsRow_below A.row (by (repeat' (first | with_reducible assumption | with_reducible exact Below.refl _ _ | (with_reducible refine below_drewN ?_ _) | (with_reducible refine Below.drew ?_) | (with_reducible refine balloc ?_ _) | (with_reducible refine Below.setCell ?_ (by first | exact Nat.le_refl _ | (simp; done) | omega | (simp; omega)) _) | (with_reducible refine bstep ?_ (by with_reducible assumption)))))⟩⟩
                  · have hg2 : Hid (gather (i + 1) (ls.drop (i + 1)) g = G) := Lib.hid (by have := hg1.out; simpa [ht] using this)
                    have ok2 : GOk g (i + 1) := by simpa [ht] using ok1
                    clear hg1 ok1
                    go_wp2_with fail
                    go_roundg (gk - 1)
                    case measure => omega
                    case rel => exact ⟨i + 1, g, vs, rfl, rfl, rfl, rfl, by omega, by omega, hg2, ok2, A.below (by (repeat' (first | with_reducible assumption | with_reducible exact Below.refl _ _ | (with_reducible refine below_drewN ?_ _) | (with_reducible refine Below.drew ?_) | (with_reducible refine balloc ?_ _) | (with_reducible refine Below.setCell ?_ (by first | exact Nat.le_refl _ | (simp; done) | omega | (simp; omega)) _) | (with_reducible refine bstep ?_ (by with_reducible assumption)))))⟩
                | none =>
                  obtain ⟨g2, hg2e⟩ : ∃ g2 : Gt, g2 = { g with vars := g.vars ++ [(name1, (m, g.at_))], spans := g.spans ++ [(m, g.at_)], at_ := g.at_ + (m + 15) / 16 * 16 } := ⟨_, rfl⟩
                  have hm0 : ¬ m < 0 := by omega
                  have hg2 : Hid (gather (i + 1) (ls.drop (i + 1)) g2 = G) := Lib.hid (by have := hg1.out; rw [hg2e]; simpa [hm0] using this)
                  have ok2 : GOk g2 (i + 1) := by rw [hg2e]; simpa [hm0] using ok1
                  have hg2e := Lib.hid hg2e
                  have hn1 : lookV (varV g.vars) (.string (St name1)) = none := by
                    have := lookV_str (fun n => Pv n) g.vars (St name1)
                    rw [bl_St, hlv] at this
                    exact this
                  have hn1 := Lib.hid hn1
                  have hK := Lib.hid (keysOk_str (fun n => Pv n) g.vars)
                  have hat := A.var.alloc A.var.lt (.cells #[.int .i64 0, .int .i64 0] 110)
                  have hat := Lib.hid hat
                  obtain ⟨ads, caps, rfl, -⟩ := ownsRow_at A.row
                  have hsl := ok.spans
                  have hkl : g.spans.length + 1 ≤ 4294967296 := by omega
                  have oc1 : ∀ u ∈ [Value.int .i64 m, Value.int .i64 g.at_], u.oneCell' = true := by intro u hu; simp only [List.mem_cons, List.not_mem_nil, or_false] at hu; rcases hu with rfl | rfl <;> rfl
                  clear hg1 ok1
                  go_wp2_with (at_mapUpdate; refine wpList_new rfl (.tmp 77) (.tmp 78) (.tmp 81) 64 (.inr rfl) 9 110 .string und64 und9 r2 (varV g.vars) rfl hat.out hK.out (.string (St name1)) (Pv (m, g.at_)) rfl rfl (.str _) hn1.out ?_)
                  intro w5 hat5 hk5 hm5
                  have A2 := A.below (balloc (Below.refl _ w4) (.cells #[.int .i64 0, .int .i64 0] 110))
                  have hpl2 := A2.box.lt
                  have hrs := hm5.size
                  simp only [World.size_alloc] at hrs
                  have hrs2 : w4.heap.size + 1 ≤ w5.heap.size := by omega
                  clear hrs
                  have X5 := A2.box.of_block (hm5.block p hpr2)
                  have K5 := A2.kp.mapped hm5 (.inl (by simp))
                  have L5 := A2.lab.of_block (hm5.block r1 hr12)
                  have O5 := ownsRow_of_block A2.row fun k hk => hm5.block k (by have := (A2.row.lt k hk).1; omega)
                  clear hx1 hf1 hL1 hL2
                  have hx1 := X5.cell
                  have hf1 := X5.frozen
                  go_wp2_with (at_builtin; refine wpList_app1 rfl (.tmp 86) (.tmp 90) 66 rfl w.heap.size 110 _ 2 16 und66 info110 rfl (by decide) (.slice ads g.spans.length caps) g.spans.length (spanFlat g.spans) rfl (O5.alloc _) w5.heap.size 1 [.int .i64 m, .int .i64 g.at_] rfl rfl (by intro j hj; exact ((Bx.new (w := w5) (c := #[.int .i64 m, .int .i64 g.at_]) (T := 110)).cell j).trans (by simp)) oc1 hkl (by decide) (by simp; omega) ?_)
                  intro v' w' O' G'
                  obtain ⟨adn, capn, rfl, -⟩ := ownsRow_at O'
                  have hrow : ∀ k, (Value.slice ads g.spans.length caps).ownBlock = some k → w.heap.size ≤ k := fun k hk => (O5.lt k hk).1
                  have K6 := (K5.alloc (.cells #[.int .i64 m, .int .i64 g.at_] 110)).grown G' (fun k hk => .inr (hrow k hk))
                  have X6 := (X5.alloc (o := .cells #[.int .i64 m, .int .i64 g.at_] 110)).grown G' (by intro e; have := hrow _ e; omega)
                  have L6 := (L5.alloc L5.lt (.cells #[.int .i64 m, .int .i64 g.at_] 110)).of_block (G'.block r1 (Nat.lt_of_lt_of_le L5.lt (by simp)) (by intro e; have := hrow _ e.symm; omega))
                  have V6 := (hat5.alloc hat5.lt (.cells #[.int .i64 m, .int .i64 g.at_] 110)).of_block (G'.block r2 (Nat.lt_of_lt_of_le hat5.lt (by simp)) (by intro e; have := hrow _ e.symm; omega))
                  have hx6 := X6.cell
                  have hf6 := X6.frozen
                  clear hx1 hf1
                  go_wp2_with fail
                  go_roundg (gk - 1)
                  case measure => omega
                  case rel =>
                    have e := hg2e.out
                    subst e
                    refine ⟨i + 1, { g with vars := g.vars ++ [(name1, (m, g.at_))], spans := g.spans ++ [(m, g.at_)], at_ := g.at_ + (m + 15) / 16 * 16 }, _, rfl, rfl, rfl, rfl, by omega, by omega, hg2, ok2, ⟨K6.setCell _ (.inl (by simp)), X6.set, L6.of_block (Below.heap_setCell _ _ _ _ hpr1.symm), by rw [varV_app]; exact V6.of_block (Below.heap_setCell _ _ _ _ hpr2.symm), ?_⟩⟩
                    rw [spanFlat_app, List.length_append]
                    refine ownsRow_setCell O' ?_
                    intro k hk
                    have := (O'.lt k hk).1
                    simp only
                    omega
    · obtain rfl : i = ls.length := by omega
      have hGg : Hid (G = g) := Lib.hid (by rw [← hg.out, List.drop_length]; rfl)
      have a0 := ok.a0
      have a1 := ok.a1
      have hx := A.box.cell
      have hf := A.box.frozen
      have hmk := fun w => make_bytes w (g.at_ - 65536) (by omega) (by omega)
      have hx1 := (A.box.alloc (o := .cells (byteV (List.replicate (g.at_ - 65536).toNat 0)) 5)).cell
      have hf1 := (A.box.alloc (o := .cells (byteV (List.replicate (g.at_ - 65536).toNat 0)) 5)).frozen
      have hlt := A.box.lt
      have hle := A.kp.size
      go_wp2_with fail
      clear hmk hx1 hf1 hx hf
      go_ret
      have K := (A.kp.setCell (p := ⟨p, 4, none⟩) (.slice (some ⟨wr.heap.size, 0, none⟩) (g.at_ - 65536).toNat (g.at_ - 65536).toNat) (.inl (by simp))).alloc (.cells (byteV (List.replicate (g.at_ - 65536).toNat 0)) 5)
      have D := Bx.new (w := wr.setCell ⟨p, 4, none⟩ (.slice (some ⟨wr.heap.size, 0, none⟩) (g.at_ - 65536).toNat (g.at_ - 65536).toNat)) (c := byteV (List.replicate (g.at_ - 65536).toNat 0)) (T := 5)
      rw [size_setCell] at D
      have L1 := A.lab.of_block (Below.heap_setCell wr ⟨p, 4, none⟩ (.slice (some ⟨wr.heap.size, 0, none⟩) (g.at_ - 65536).toNat (g.at_ - 65536).toNat) r1 hpr1.symm)
      have L2 := A.var.of_block (Below.heap_setCell wr ⟨p, 4, none⟩ (.slice (some ⟨wr.heap.size, 0, none⟩) (g.at_ - 65536).toNat (g.at_ - 65536).toNat) r2 hpr2.symm)
      rw [hGg.out]
      refine ⟨rfl, vs, wr.heap.size, _, rfl, hle, K, A.box.set.alloc, L1.alloc L1.lt _, L2.alloc L2.lt _, World.ownsRow.alloc (ownsRow_setCell A.row ?_) _, D⟩
      intro k hk
      have := (A.row.lt k hk).1
      simp only
      omega
end Go.Proofs.YtfkfdffhajokkaaGreatDoor
