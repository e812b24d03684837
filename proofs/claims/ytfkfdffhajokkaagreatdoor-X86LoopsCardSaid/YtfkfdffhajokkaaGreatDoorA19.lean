/- What package x86's Read answers; conditions: a text of at most 1048575 bytes, the library's variables and the table of forms as they begin. -/
import Derived.Test.YtfkfdffhajokkaaGreatDoorA18
namespace Go.Proofs.YtfkfdffhajokkaaGreatDoor
open Go.RowKit X
set_option linter.unusedSimpArgs false
theorem datum_len (labels : List (Str × Int)) (vars : List (Str × (Int × Int))) (data : List UInt8) (lay : Bool) (s : Str) : (datum labels vars data lay s).1.length = data.length := by
  unfold datum
  simp only
  split
  · rfl
  · split
    · rfl
    · split
      · rfl
      · split
        · exact putBytes_len _ _ _ _
        · rfl
theorem datum_lay (p d : Nat) (s : ByteArray) (hs : s.size < 4294967281) (labels : List (Str × Int)) (vars : List (Str × (Int × Int))) (data : List UInt8) (w : World) (E : Env w) (N : Names w p labels vars)
    (HL : LabOk labels) (HV : VarOk vars data.length) (HD : DatAt w p d data) :
    Calls Tryz.prog 28 #[.pointer (some ⟨p, 0, none⟩), .string s, .bool true] w fun e w' => e = .returned (.bool (datum labels vars data true (bl s)).2) ∧ Bx w' d (byteV (datum labels vars data true (bl s)).1) 5 ∧ But d w w' := by
  by_cases hd : (splitOn 32 (bl s)).headD [] = ([46, 100, 97, 116, 97] : Str)
  · have h : datum labels vars data true (bl s) = (data, dataSize (splitOn 32 (bl s))) := by unfold datum; rw [if_pos hd]
    rw [h]
    exact (datum_size p s hs true w E hd).mono fun e w' h => ⟨h.1, HD.box.below h.2, But.of_below h.2⟩
  · exact (datum_cell p d s hs true labels vars data w E N HL HV (fun _ => HD) hd).mono fun e w' h => ⟨h.1, h.2.2 rfl⟩
theorem St_bl (s : ByteArray) : St (bl s) = s := by
  obtain ⟨⟨l⟩⟩ := s
  rfl
/-- What Read answers: where something is wrong; or a code. -/
def ReadRet (w : World) (e : Ending) (w' : World) : Except (Int × Int) Cd → Prop
  | .error c => e = .returned (.tuple #[.pointer none, .agg #[.int .i64 c.1, .int .i64 c.2]]) ∧ Below w.heap.size w w'
  | .ok C => ∃ p, e = .returned (.tuple #[.pointer (some ⟨p, 0, none⟩), .agg #[.int .i64 0, .int .i64 0]]) ∧ CodeAt w' w.heap.size p C ∧ Below w.heap.size w w'
/-- What the second look at the lines comes to. -/
def readEnd (text : Str) (g : Gt) (last : Str) (r : Rd) : Except (Int × Int) Cd :=
  if r.bad then .error (12, r.at_) else if last ≠ [] then .error (12, r.at_) else if (g.labels.lookup ([109, 97, 105, 110] : Str)).isNone then .error (11, text.length) else .ok ⟨text, r.lines, g.labels, g.vars, r.data, g.spans⟩
theorem read_eq (s : Str) : X.read s = readEnd s (gather 0 (splitOn 10 s).dropLast gather0) ((splitOn 10 s).getLastD []) (readLines (gather 0 (splitOn 10 s).dropLast gather0) 0 (splitOn 10 s).dropLast ⟨[], List.replicate ((gather 0 (splitOn 10 s).dropLast gather0).at_ - 65536).toNat 0, 0, false⟩) := rfl
theorem gather_ok : ∀ (ls : List Str) (i : Nat) (g : Gt), GOk g i → GOk (gather i ls g) (i + ls.length)
  | [], i, g, h => h
  | s :: r, i, g, h => by
    have := gather_ok r (i + 1) (gatherLine g i s) (h.line s)
    rw [List.length_cons, show i + (r.length + 1) = i + 1 + r.length by omega]
    exact this
theorem CodeAt.other {w w' : World} {B p e : Nat} {C : Cd} {c : Array Value} (h : CodeAt w B p C) (he : Bx w e c 38) (hb : ∀ k, k < w.heap.size → k ≠ e → w'.heap[k]? = w.heap[k]?) : CodeAt w' B p C := by
  obtain ⟨lo, vl, xs, r1, r2, d, vs, h1, h2, h3, h4, h5, h6, h7, h8⟩ := h
  exact ⟨lo, vl, xs, r1, r2, d, vs, h1.of_block (hb _ h1.lt (h1.ne he (by decide))), ownsRow_of_block h2 fun k hk => hb k (h2.lt k hk).2 (he.ne_row h2 (by decide) k hk),
    h3.of_blocks fun k _ hk => hb k hk.lt (hk.ne he (by decide)), h4.of_block (hb _ h4.lt (he.ne_map h4).symm), h5.of_block (hb _ h5.lt (he.ne_map h5).symm),
    h6.of_block (hb _ h6.lt (h6.ne he (by decide))), ownsRow_of_block h7 fun k hk => hb k (h7.lt k hk).2 (he.ne_row h7 (by decide) k hk), h8⟩
theorem RAt.code {w wr : World} {e0 p r1 r2 d bL cap : Nat} {s : ByteArray} {g : Gt} {all : List Str} {n : Nat} {vs vl : Value} {xs : List Value} {ls : List Ln} {data : List UInt8}
    (h : RAt w wr e0 p r1 r2 d bL cap s g all n vs vl xs ls data) (hn : data.length = n) : CodeAt wr w.heap.size p ⟨bl s, ls, g.labels, g.vars, data, g.spans⟩ := by
  subst hn
  exact ⟨h.lo.1, vl, xs, r1, r2, d, vs, by rw [St_bl]; exact h.box, h.lines, h.lat, h.lab, h.var, h.dat, h.row, h.lo.2.1, h.lo.2.2.1, h.lo.2.2.2.1⟩
set_option maxHeartbeats 2000000 in
set_option maxRecDepth 100000 in
theorem Read_any (s : ByteArray) (hs : s.size ≤ 1048575) (w : World) (E : Env w) (F : FormsAt w) :
    Calls Tryz.prog 13 #[.string s] w fun e w' => ReadRet w e w' (X.read (bl s)) := by
  rw [read_eq]
  obtain ⟨l, hl⟩ : ∃ l, splitOn 10 (bl s) = l := ⟨_, rfl⟩
  have hne : l ≠ [] := by rw [← hl]; exact splitOn_ne 10 _
  have hll : l.length ≤ 1048576 := by have := splitOn_len 10 (bl s); rw [hl, bl_len] at this; omega
  have hpl : ∀ x ∈ l, x.length ≤ 1048575 := fun x hx => by have := piece_le 10 (bl s) x (by rw [hl]; exact hx); rw [bl_len] at this; omega
  obtain ⟨n, hn⟩ : ∃ n, l.dropLast.length = n := ⟨_, rfl⟩
  have hln : l.length = n + 1 := by rw [← hn, List.length_dropLast]; have := List.length_pos_iff.2 hne; omega
  obtain ⟨last, hlast⟩ : ∃ x, l.getLastD [] = x := ⟨_, rfl⟩
  have hgn : l.getD n [] = last := by
    rw [← hlast]
    have : l.getLast? = some (l.getLast hne) := List.getLast?_eq_some_getLast hne
    rw [List.getLastD_eq_getLast?, this, List.getLast_eq_getElem hne, List.getD_eq_getElem?_getD, List.getElem?_eq_getElem (by omega)]
    simp [hln]
  obtain ⟨ls, hls⟩ : ∃ x, l.dropLast = x := ⟨_, rfl⟩
  have hget : ∀ i, i < n → ls.getD i [] = l.getD i [] := fun i hi => by
    rw [← hls, List.getD_eq_getElem?_getD, List.getD_eq_getElem?_getD, List.getElem?_dropLast, if_pos (by omega)]
  have hsub : ∀ x ∈ ls, x.length ≤ 1048575 := fun x hx => hpl x (by rw [← hls] at hx; exact List.dropLast_subset l hx)
  rw [hl, hlast, hls]
  rw [hls] at hn
  obtain ⟨g, hg⟩ : ∃ g, gather 0 ls gather0 = g := ⟨_, rfl⟩
  have ok : GOk g n := by have := gather_ok ls 0 gather0 GOk.start; rw [hg, Nat.zero_add, hn] at this; exact this
  obtain ⟨R, hR⟩ : ∃ R, readLines g 0 ls ⟨[], List.replicate (g.at_ - 65536).toNat 0, 0, false⟩ = R := ⟨_, rfl⟩
  obtain ⟨Z, hZ⟩ : ∃ Z, readEnd (bl s) g last R = Z := ⟨_, rfl⟩
  rw [hg, hR, hZ]
  have HS := fun w E => Lib.hid (Split_is s 10 l (n + 1) (by omega) hl hln w E)
  have hcl : (strCells l)[n]? = some (.string (St last)) := by rw [strCells_cell l n (by omega), hgn]
  have hR := Lib.hid hR
  have hZ := Lib.hid hZ
  have hmm := @run_makeMap Tryz.prog
  have hget' := Lib.hid hget
  clear hl hlast hgn hget hls
  have FW : ∀ W, W = ((((w.alloc (.cells #[.int .i64 0, .int .i64 0] 38)).alloc (.map #[] 0)).alloc (.map #[] 0)).alloc (.cells #[.string s, .slice none 0 0, .map (some (w.heap.size + 1)), .map (some (w.heap.size + 1 + 1)), .slice none 0 0, .slice none 0 0] 68)) → Bx W w.heap.size #[.int .i64 0, .int .i64 0] 38 ∧ Bx W (w.heap.size + 1 + 1 + 1) #[.string s, .slice none 0 0, .map (some (w.heap.size + 1)), .map (some (w.heap.size + 1 + 1)), .slice none 0 0, .slice none 0 0] 68 ∧
      MapAt W (w.heap.size + 1) [] ∧ MapAt W (w.heap.size + 1 + 1) [] ∧ Below w.heap.size w W ∧ W.heap.size = w.heap.size + 1 + 1 + 1 + 1 := by
    rintro W rfl
    have h1 := Bx.new (w := w) (c := #[.int .i64 0, .int .i64 0]) (T := 38)
    have h2 := MapAt.made (w.alloc (.cells #[.int .i64 0, .int .i64 0] 38))
    have h3 := MapAt.made ((w.alloc (.cells #[.int .i64 0, .int .i64 0] 38)).alloc (.map #[] 0))
    have h4 := Bx.new (w := ((w.alloc (.cells #[.int .i64 0, .int .i64 0] 38)).alloc (.map #[] 0)).alloc (.map #[] 0)) (c := #[.string s, .slice none 0 0, .map (some (w.heap.size + 1)), .map (some (w.heap.size + 1 + 1)), .slice none 0 0, .slice none 0 0]) (T := 68)
    simp only [World.size_alloc] at h2 h3 h4
    exact ⟨h1.alloc.alloc.alloc, h4, (h2.alloc (by simp) _).alloc (by simp) _, h3.alloc (by simp) _, by (repeat' (first | with_reducible assumption | with_reducible exact Below.refl _ _ | (with_reducible refine below_drewN ?_ _) | (with_reducible refine Below.drew ?_) | (with_reducible refine balloc ?_ _) | (with_reducible refine Below.setCell ?_ (by first | exact Nat.le_refl _ | (simp; done) | omega | (simp; omega)) _) | (with_reducible refine bstep ?_ (by with_reducible assumption)))), by simp⟩
  go_enter Tryz.func13, Tryz.ntmps13
  go_wp2_with fail
  generalize hW : ((((w.alloc (.cells #[.int .i64 0, .int .i64 0] 38)).alloc (.map #[] 0)).alloc (.map #[] 0)).alloc (.cells #[.string s, .slice none 0 0, .map (some (w.heap.size + 1)), .map (some (w.heap.size + 1 + 1)), .slice none 0 0, .slice none 0 0] 68)) = W0
  obtain ⟨XE, XP, MA, MB, B0, hsW⟩ := FW W0 hW.symm
  clear FW hW hmm
  have hsW2 := Nat.le_of_eq hsW.symm
  generalize hp : w.heap.size + 1 + 1 + 1 = p at *
  generalize hr2 : w.heap.size + 1 + 1 = r2 at *
  generalize hr1 : w.heap.size + 1 = r1 at *
  generalize he0 : w.heap.size = e0 at *
  have hsW' := Lib.hid hsW
  clear hsW
  refine ((HS _ (E.mono B0 (by have := E.size; omega))).out).mono ?_
  rintro e w1 ⟨rfl, rfl⟩
  have hx := (Bx.new (w := W0) (c := strCells l) (T := 9)).cell
  have hnn : ((n : Int) + 1) - 1 = (n : Int) := by omega
  go_wp2_with fail
  have B1 : Below w.heap.size w (W0.alloc (.cells (strCells l) 9)) := balloc (by rw [he0]; exact B0) _
  have E1 : Env (W0.alloc (.cells (strCells l) 9)) := E.below B1
  rw [he0] at B1
  have hsub2 : ∀ x ∈ ls, x.length < 4294967281 := fun x hx => by have := hsub x hx; omega
  have XL := Bx.new (w := W0) (c := strCells l) (T := 9)
  have hst : StrsAt (W0.alloc (.cells (strCells l) 9)) (.slice (some ⟨W0.heap.size, 0, none⟩) ls.length (n + 1)) ls :=
    ⟨_, _, rfl, fun _ => ⟨_, _, rfl, fun i hi => by rw [Nat.zero_add, XL.cell, strCells_cell l i (by omega), hget'.out i (by omega)]⟩⟩
  have HG := gather_any p r1 r2 W0.heap.size (n + 1) s ls (by omega) hsub2 _ E1 (by have := E.size; omega) (by have := E.size; omega) (by have := E.size; omega) (by omega) hst (by simp only [List.mem_cons, List.not_mem_nil, or_false]; omega) XP.alloc (MA.alloc MA.lt _) (MB.alloc MB.lt _)
  rw [hn, hg] at HG
  refine HG.mono ?_
  clear HG hst hx HS
  rintro e w2 ⟨rfl, vs, d, N, hN, hdl, K, X2, L2, V2, O2, D2⟩
  rw [World.size_alloc] at hdl O2
  have A : RAt w w2 e0 p r1 r2 d W0.heap.size (n + 1) s g l N vs (.slice none 0 0) [] [] (List.replicate N 0) := by
    have hin : ∀ k, k ∈ [p, r1, r2] → e0 ≤ k := by intro k hk; simp only [List.mem_cons, List.not_mem_nil, or_false] at hk; omega
    refine ⟨?_, XE.alloc.kp K (by simp only [List.mem_cons, List.not_mem_nil, or_false]; omega), X2, L2, V2, D2, ownsRow_mono O2 (by omega), World.ownsRow_nil _ _ _ _, LinesAt.nil _ _, XL.kp K (by simp only [List.mem_cons, List.not_mem_nil, or_false]; omega), by omega⟩
    rw [he0]
    exact Below.kp B1 K hin (by simp only [World.size_alloc]; omega)
  clear K X2 L2 V2 O2 D2 XL XE XP MA MB B0 B1 E1
  rw [← hN] at hR
  have hap := ok.a1
  have hap0 := ok.a0
  have ht0 := ok.t0
  have ht1 := ok.t1
  have hdl0 : e0 ≤ d := by omega
  have hLp : e0 < W0.heap.size := by omega
  have hLl := Lib.hid hcl
  clear hcl hdl hsW2 hsW' hp hr2 hr1
  generalize W0.heap.size = bL at *
  go_wp2_with fail
  go_loopg [8, 40] (n + 1) (fun q va vi wr => ∃ (i : Nat) (at_ : Int) (lines : List Ln) (data : List UInt8) (vl : Value) (xs : List Value), va = .int .i64 at_ ∧ vi = .int .i64 i ∧ i ≤ n ∧ q + i = n + 1 ∧ 0 ≤ at_ ∧ at_ ≤ (i : Int) * 1048576 ∧ data.length = N ∧ lines.length ≤ i ∧
    Hid (readLines g i (ls.drop i) ⟨lines, data, at_, false⟩ = R) ∧ RAt w wr e0 p r1 r2 d bL (n + 1) s g l N vs vl xs lines data)
  case atStart => exact ⟨0, 0, [], _, _, [], rfl, rfl, by omega, rfl, by omega, by omega, by simp, by simp, hR, A⟩
  case round =>
    obtain ⟨i, at_, lines, data, vl, xs, rfl, rfl, hi, hq, hat0, hat1, hdn, hll2, hg1, A⟩ := hrel
    clear hR
    by_cases hlt : i < n
    · obtain ⟨x, hx⟩ : ∃ x, ls.getD i [] = x := ⟨_, rfl⟩
      have hxm : x ∈ ls := by rw [← hx, List.getD_eq_getElem?_getD, List.getElem?_eq_getElem (by omega)]; simp
      have hxl := hsub x hxm
      have hcl : (strCells l)[i]? = some (.string (St x)) := by rw [strCells_cell l i (by omega), ← hget'.out i hlt, hx]
      have hg2 := Lib.hid (show (if (readLine g i ⟨lines, data, at_, false⟩ x).bad then readLine g i ⟨lines, data, at_, false⟩ x else readLines g (i + 1) (ls.drop (i + 1)) (readLine g i ⟨lines, data, at_, false⟩ x)) = R by
        rw [← hg1.out, drop_getD' [] ls i (by omega), hx]; rfl)
      have hbl := A.strs.cell
      have hz : (St x).size < 4294967281 := by rw [St_size]; omega
      have hxz : (St x).size = x.length := rfl
      obtain ⟨rest, hrest⟩ : ∃ r, Lib.trimPrefix x [9] = r := ⟨_, rfl⟩
      obtain ⟨tb, htb⟩ : ∃ b, Lib.hasPrefix x [9] = b := ⟨_, rfl⟩
      have HP := fun w => Lib.hid (CutPrefix_is (St x) [9] rest tb hrest htb w)
      clear hx hxm hg1
      cases tb with
      | true =>
        obtain ⟨lo, hlo⟩ : ∃ o, instruction g.labels g.vars rest = o := ⟨_, rfl⟩
        obtain ⟨ln, okb⟩ := lo
        have hrl : (St rest).size < 4294967281 := by
          have : rest.length ≤ x.length := by rw [← hrest]; exact trimPrefix_le x [9]
          rw [St_size]; omega
        have HI := fun w E F N => Lib.hid (instruction_any p (St rest) hrl g.labels g.vars w E F N)
        rw [bl_St, hlo] at HI
        have hRl : readLine g i ⟨lines, data, at_, false⟩ x = if !okb || decide ((i : Int) = g.twice) then ⟨lines, data, at_, true⟩ else ⟨lines ++ [ln], data, at_ + (x.length + 1), false⟩ := by
          unfold readLine
          rw [htb, hrest, hlo]
          rfl
        rw [hRl] at hg2
        clear hRl hlo hrl hrest htb
        go_wp2_with fail
        refine ((HP _).out).mono ?_
        rintro e w3 ⟨rfl, rfl⟩
        have A1 := A.on (balloc (Below.refl _ wr) (.cells #[.string ⟨#[]⟩, .slice none 0 0] 75))
        have X1 := Bx.new (w := wr) (c := #[.string ⟨#[]⟩, .slice none 0 0]) (T := 75)
        go_wp2_with fail
        refine ((HI _ (E.below A1.below) (F.below A1.below) A1.names).out).mono ?_
        rintro e w4 ⟨vo, rfl, hvo, hb4⟩
        have A2 := A1.on hb4
        have X2 := X1.below hb4
        obtain ⟨ado, capo, rfl, -⟩ := ownsRow_at hvo
        have hx2 := X2.cell
        have hf2 := X2.frozen
        clear hbl
        go_wp2_with fail
        have BW : Below wr.heap.size wr ((w4.setCell ⟨wr.heap.size, 0, none⟩ (.string (St ln.word))).setCell ⟨wr.heap.size, 1, none⟩ (.slice ado ln.ops.length capo)) := Below.setCell (Below.setCell (bstep (balloc (Below.refl _ wr) (.cells #[.string ⟨#[]⟩, .slice none 0 0] 75)) hb4) (Nat.le_refl _) _) (Nat.le_refl _) _
        have X5 : Bx ((w4.setCell ⟨wr.heap.size, 0, none⟩ (.string (St ln.word))).setCell ⟨wr.heap.size, 1, none⟩ (.slice ado ln.ops.length capo)) wr.heap.size #[.string (St ln.word), .slice ado ln.ops.length capo] 75 := (X2.set (i := 0) (v := .string (St ln.word))).set (i := 1) (v := .slice ado ln.ops.length capo)
        have V5 : ((w4.setCell ⟨wr.heap.size, 0, none⟩ (.string (St ln.word))).setCell ⟨wr.heap.size, 1, none⟩ (.slice ado ln.ops.length capo)).ownsRow w.heap.size 118 7 (.slice ado ln.ops.length capo) ln.ops.length (opsFlat ln.ops) := by
          have hne2 := X2.ne_row hvo (by decide)
          exact ownsRow_mono (ownsRow_setCell (ownsRow_setCell hvo hne2) hne2) (by have := A1.below.size; exact this)
        generalize (w4.setCell ⟨wr.heap.size, 0, none⟩ (.string (St ln.word))).setCell ⟨wr.heap.size, 1, none⟩ (.slice ado ln.ops.length capo) = w5 at *
        have A5 := A.on BW
        generalize wr.heap.size = bt at *
        obtain ⟨adl, capl, rfl, -⟩ := ownsRow_at A5.lines
        have hx5 := X5.cell
        have hbx := A5.box.cell
        have hll3 : lines.length + 1 ≤ 4294967296 := by omega
        have oc1 : ∀ u ∈ [Value.string (St ln.word), Value.slice ado ln.ops.length capo], u.oneCell' = true := by intro u hu; simp only [List.mem_cons, List.not_mem_nil, or_false] at hu; rcases hu with rfl | rfl <;> rfl
        have hsz5 := A5.below.size
        clear hx2 hf2 X2 X1 A1 A2 hvo HI HP
        have hp5 := A5.box.lt
        have hnews : ∀ j, j < 2 → (w5.alloc (.cells #[.string (St ln.word), .slice ado ln.ops.length capo] 75)).drew.cell? ⟨w5.heap.size, j, none⟩ = ([.string (St ln.word), .slice ado ln.ops.length capo] : List Value)[j]? := by
          intro j hj
          exact (Bx.new.drew.cell j).trans (by simp)
        have hnews := Lib.hid hnews
        have A6 := A5.on (Below.drew (balloc (Below.refl _ w5) (.cells #[.string (St ln.word), .slice ado ln.ops.length capo] 75)))
        have V6 : (w5.alloc (.cells #[.string (St ln.word), .slice ado ln.ops.length capo] 75)).drew.ownsRow w.heap.size 118 7 (.slice ado ln.ops.length capo) ln.ops.length (opsFlat ln.ops) := V5.alloc (.cells #[.string (St ln.word), .slice ado ln.ops.length capo] 75)
        have hnr : (Value.slice adl lines.length capl).ownBlock ≠ some p := fun e => A6.box.ne_row A6.lines (by decide) _ e rfl
        have hnr := Lib.hid hnr
        go_region_law (refine step_app1 rfl (.tmp 61) (.tmp 63) 65 rfl w.heap.size 75 (.agg #[.string ⟨#[]⟩, .slice none 0 0]) 2 40 und65 info75 rfl Nat.two_pos (.slice adl lines.length capl) lines.length xs rfl A6.lines w5.heap.size 1 [.string (St ln.word), .slice ado ln.ops.length capo] rfl rfl hnews.out oc1 hll3 (Nat.le_of_ble_eq_true rfl) A6.below.size ?_; intro v' w' O' G'; obtain ⟨adn, capn, rfl, -⟩ := ownsRow_at O'; have X7 := A6.box.grown G' hnr.out; have hx7 := X7.cell; have hf7 := X7.frozen)
        all_goals
          have A7 := A6.more ln V6 O' G'
          clear hx7 hf7 X7 hx5 hbx
          cases okb with
          | false =>
            have hRe : Hid (R = ⟨lines, data, at_, true⟩) := Lib.hid (by rw [← hg2.out]; simp)
            have hZr : Hid (Z = .error (12, at_)) := Lib.hid (by rw [← hZ.out, hRe.out]; rfl)
            have hxe := A7.err.cell
            have hfe := A7.err.frozen
            have X3 := (A7.err.set (i := 0) (v := .int .i64 12)).set (i := 1) (v := .int .i64 at_)
            have X3 : Bx ((((w'.setCell ⟨p, 1, none⟩ (.slice adn (lines.length + 1) capn))).setCell ⟨e0, 0, none⟩ (.int .i64 12)).setCell ⟨e0, 1, none⟩ (.int .i64 at_)) e0 #[.int .i64 12, .int .i64 at_] 38 := X3
            have hx3 := X3.cell
            have hB := Below.setCell (Below.setCell A7.below (p := ⟨e0, 0, none⟩) A7.lo.2.2.2.2 (.int .i64 12)) (p := ⟨e0, 1, none⟩) A7.lo.2.2.2.2 (.int .i64 at_)
            clear hg2 hRe
            go_wp2_with fail
            exact bodyPost_ret (v := .tuple #[.pointer none, .agg #[.int .i64 12, .int .i64 at_]]) (by simp [results, Tryz.results13, go_sem, hx3]) rfl (by rw [hZr.out]; exact ⟨rfl, hB⟩)
          | true =>
            by_cases ht : (i : Int) = g.twice
            · have hRe : Hid (R = ⟨lines, data, at_, true⟩) := Lib.hid (by rw [← hg2.out]; simp [ht])
              have ht1 : ((i : Int) == g.twice) = true := beq_iff_eq.2 ht
              have hZr : Hid (Z = .error (12, at_)) := Lib.hid (by rw [← hZ.out, hRe.out]; rfl)
              have hxe := A7.err.cell
              have hfe := A7.err.frozen
              have X3 := (A7.err.set (i := 0) (v := .int .i64 12)).set (i := 1) (v := .int .i64 at_)
              have X3 : Bx ((((w'.setCell ⟨p, 1, none⟩ (.slice adn (lines.length + 1) capn))).setCell ⟨e0, 0, none⟩ (.int .i64 12)).setCell ⟨e0, 1, none⟩ (.int .i64 at_)) e0 #[.int .i64 12, .int .i64 at_] 38 := X3
              have hx3 := X3.cell
              have hB := Below.setCell (Below.setCell A7.below (p := ⟨e0, 0, none⟩) A7.lo.2.2.2.2 (.int .i64 12)) (p := ⟨e0, 1, none⟩) A7.lo.2.2.2.2 (.int .i64 at_)
              clear hg2 hRe
              go_wp2_with fail
              exact bodyPost_ret (v := .tuple #[.pointer none, .agg #[.int .i64 12, .int .i64 at_]]) (by simp [results, Tryz.results13, go_sem, hx3]) rfl (by rw [hZr.out]; exact ⟨rfl, hB⟩)
            · have hg3 : Hid (readLines g (i + 1) (ls.drop (i + 1)) ⟨lines ++ [ln], data, at_ + (x.length + 1), false⟩ = R) := Lib.hid (by rw [← hg2.out]; simp [ht])
              have ht1 : ((i : Int) == g.twice) = false := beq_f ht
              clear hg2 ht
              go_wp2_with fail
              go_roundg (gk - 1)
              case measure => omega
              case rel => exact ⟨i + 1, at_ + (x.length + 1), lines ++ [ln], data, _, _, rfl, rfl, by omega, by omega, by omega, by omega, hdn, by simp; omega, hg3, A7⟩
      | false =>
        obtain ⟨lb, hlb⟩ : ∃ b, isLabel x = b := ⟨_, rfl⟩
        obtain ⟨name, isl⟩ := lb
        have HI : ∀ w, Hid _ := fun w => Lib.hid (isLabel_any (St x) hz w)
        simp only [bl_St, hlb] at HI
        cases isl with
        | true =>
          have hRl : readLine g i ⟨lines, data, at_, false⟩ x = if decide ((i : Int) = g.twice) then ⟨lines, data, at_, true⟩ else ⟨lines, data, at_ + (x.length + 1), false⟩ := by
            unfold readLine
            rw [htb, hlb]
            rfl
          rw [hRl] at hg2
          clear hRl hlb hrest htb
          go_wp2_with fail
          refine ((HP _).out).mono ?_
          rintro e w3 ⟨rfl, rfl⟩
          go_wp2_with fail
          refine ((HI _).out).mono ?_
          rintro e w3 ⟨rfl, rfl⟩
          by_cases ht : (i : Int) = g.twice
          · have hRe : Hid (R = ⟨lines, data, at_, true⟩) := Lib.hid (by rw [← hg2.out]; simp [ht])
            have ht1 : ((i : Int) == g.twice) = true := beq_iff_eq.2 ht
            have hZr : Hid (Z = .error (12, at_)) := Lib.hid (by rw [← hZ.out, hRe.out]; rfl)
            have hxe := A.err.cell
            have hfe := A.err.frozen
            have X3 := (A.err.set (i := 0) (v := .int .i64 12)).set (i := 1) (v := .int .i64 at_)
            have X3 : Bx (((wr).setCell ⟨e0, 0, none⟩ (.int .i64 12)).setCell ⟨e0, 1, none⟩ (.int .i64 at_)) e0 #[.int .i64 12, .int .i64 at_] 38 := X3
            have hx3 := X3.cell
            have hB := Below.setCell (Below.setCell A.below (p := ⟨e0, 0, none⟩) A.lo.2.2.2.2 (.int .i64 12)) (p := ⟨e0, 1, none⟩) A.lo.2.2.2.2 (.int .i64 at_)
            clear hg2 hRe
            go_wp2_with fail
            exact bodyPost_ret (v := .tuple #[.pointer none, .agg #[.int .i64 12, .int .i64 at_]]) (by simp [results, Tryz.results13, go_sem, hx3]) rfl (by rw [hZr.out]; exact ⟨rfl, hB⟩)
          · have hg3 : Hid (readLines g (i + 1) (ls.drop (i + 1)) ⟨lines, data, at_ + (x.length + 1), false⟩ = R) := Lib.hid (by rw [← hg2.out]; simp [ht])
            have ht1 : ((i : Int) == g.twice) = false := beq_f ht
            clear hg2 ht
            go_wp2_with fail
            go_roundg (gk - 1)
            case measure => omega
            case rel => exact ⟨i + 1, at_ + (x.length + 1), lines, data, _, _, rfl, rfl, by omega, by omega, by omega, by omega, hdn, by omega, hg3, A⟩
        | false =>
          obtain ⟨dd, hdd⟩ : ∃ b, datum g.labels g.vars data true x = b := ⟨_, rfl⟩
          have hdl2 := datum_len g.labels g.vars data true x
          rw [hdd] at hdl2
          obtain ⟨data2, okb⟩ := dd
          have HDt : DatAt wr p d data := ⟨⟨N, by rw [A.box.cell, hdn]; rfl⟩, A.dat, A.dat.ne A.box (by decide), by omega⟩
          have HD : Hid _ := Lib.hid (datum_lay p d (St x) hz g.labels g.vars data wr (E.below A.below) A.names (fun n v h => by have := ok.lab n v h; omega) (fun n v h => by have := ok.var n v h; omega) HDt)
          simp only [bl_St, hdd] at HD
          have hRl : readLine g i ⟨lines, data, at_, false⟩ x = if !okb || decide ((i : Int) = g.twice) then ⟨lines, data, at_, true⟩ else ⟨lines, data2, at_ + (x.length + 1), false⟩ := by
            unfold readLine
            rw [htb, hlb, hdd]
            rfl
          rw [hRl] at hg2
          clear hRl hlb hrest htb hdd HDt
          go_wp2_with fail
          refine ((HP _).out).mono ?_
          rintro e w3 ⟨rfl, rfl⟩
          go_wp2_with fail
          refine ((HI _).out).mono ?_
          rintro e w3 ⟨rfl, rfl⟩
          go_wp2_with fail
          refine (HD.out).mono ?_
          rintro e w4 ⟨rfl, hD4, hb4⟩
          have A4 := A.laid hD4 hb4
          clear hbl HD
          cases okb with
          | false =>
            have hRe : Hid (R = ⟨lines, data, at_, true⟩) := Lib.hid (by rw [← hg2.out]; simp)
            have hZr : Hid (Z = .error (12, at_)) := Lib.hid (by rw [← hZ.out, hRe.out]; rfl)
            have hxe := A4.err.cell
            have hfe := A4.err.frozen
            have X3 := (A4.err.set (i := 0) (v := .int .i64 12)).set (i := 1) (v := .int .i64 at_)
            have X3 : Bx (((w4).setCell ⟨e0, 0, none⟩ (.int .i64 12)).setCell ⟨e0, 1, none⟩ (.int .i64 at_)) e0 #[.int .i64 12, .int .i64 at_] 38 := X3
            have hx3 := X3.cell
            have hB := Below.setCell (Below.setCell A4.below (p := ⟨e0, 0, none⟩) A4.lo.2.2.2.2 (.int .i64 12)) (p := ⟨e0, 1, none⟩) A4.lo.2.2.2.2 (.int .i64 at_)
            clear hg2 hRe
            go_wp2_with fail
            exact bodyPost_ret (v := .tuple #[.pointer none, .agg #[.int .i64 12, .int .i64 at_]]) (by simp [results, Tryz.results13, go_sem, hx3]) rfl (by rw [hZr.out]; exact ⟨rfl, hB⟩)
          | true =>
            by_cases ht : (i : Int) = g.twice
            · have hRe : Hid (R = ⟨lines, data, at_, true⟩) := Lib.hid (by rw [← hg2.out]; simp [ht])
              have ht1 : ((i : Int) == g.twice) = true := beq_iff_eq.2 ht
              have hZr : Hid (Z = .error (12, at_)) := Lib.hid (by rw [← hZ.out, hRe.out]; rfl)
              have hxe := A4.err.cell
              have hfe := A4.err.frozen
              have X3 := (A4.err.set (i := 0) (v := .int .i64 12)).set (i := 1) (v := .int .i64 at_)
              have X3 : Bx (((w4).setCell ⟨e0, 0, none⟩ (.int .i64 12)).setCell ⟨e0, 1, none⟩ (.int .i64 at_)) e0 #[.int .i64 12, .int .i64 at_] 38 := X3
              have hx3 := X3.cell
              have hB := Below.setCell (Below.setCell A4.below (p := ⟨e0, 0, none⟩) A4.lo.2.2.2.2 (.int .i64 12)) (p := ⟨e0, 1, none⟩) A4.lo.2.2.2.2 (.int .i64 at_)
              clear hg2 hRe
              go_wp2_with fail
              exact bodyPost_ret (v := .tuple #[.pointer none, .agg #[.int .i64 12, .int .i64 at_]]) (by simp [results, Tryz.results13, go_sem, hx3]) rfl (by rw [hZr.out]; exact ⟨rfl, hB⟩)
            · have hg3 : Hid (readLines g (i + 1) (ls.drop (i + 1)) ⟨lines, data2, at_ + (x.length + 1), false⟩ = R) := Lib.hid (by rw [← hg2.out]; simp [ht])
              have ht1 : ((i : Int) == g.twice) = false := beq_f ht
              clear hg2 ht
              go_wp2_with fail
              go_roundg (gk - 1)
              case measure => omega
              case rel => exact ⟨i + 1, at_ + (x.length + 1), lines, data2, _, _, rfl, rfl, by omega, by omega, by omega, by omega, by rw [hdl2]; exact hdn, by omega, hg3, A4⟩
    · obtain rfl : i = n := by omega
      have hRe : Hid (R = ⟨lines, data, at_, false⟩) := Lib.hid (by rw [← hg1.out, List.drop_eq_nil_of_le (by omega)]; rfl)
      have hx := A.err.cell
      have hf := A.err.frozen
      have hxp := A.box.cell
      have hL := lab_run A.lab ⟨#[109, 97, 105, 110]⟩
      rw [show bl ⟨#[109, 97, 105, 110]⟩ = ([109, 97, 105, 110] : Str) from rfl] at hL
      have hZ2 := hZ.out
      rw [hRe.out] at hZ2
      unfold readEnd at hZ2
      simp only [Bool.false_eq_true, if_false] at hZ2
      clear hg1 hRe hZ
      cases last with
      | cons c0 t0 =>
        have hZr : Hid (Z = .error (12, at_)) := Lib.hid (by rw [← hZ2]; simp)
        clear hZ2
        have X3 := (A.err.set (i := 0) (v := .int .i64 12)).set (i := 1) (v := .int .i64 at_)
        have X3 : Bx (((wr).setCell ⟨e0, 0, none⟩ (.int .i64 12)).setCell ⟨e0, 1, none⟩ (.int .i64 at_)) e0 #[.int .i64 12, .int .i64 at_] 38 := X3
        have hx3 := X3.cell
        have hB := Below.setCell (Below.setCell A.below (p := ⟨e0, 0, none⟩) A.lo.2.2.2.2 (.int .i64 12)) (p := ⟨e0, 1, none⟩) A.lo.2.2.2.2 (.int .i64 at_)
        go_wp2_with fail
        exact bodyPost_ret (v := .tuple #[.pointer none, .agg #[.int .i64 12, .int .i64 at_]]) (by simp [results, Tryz.results13, go_sem, hx3]) rfl (by rw [hZr.out]; exact ⟨rfl, hB⟩)
      | nil =>
        obtain ⟨mn, hmn⟩ : ∃ m, g.labels.lookup ([109, 97, 105, 110] : Str) = m := ⟨_, rfl⟩
        rw [hmn] at hL hZ2
        cases mn with
        | none =>
          have hZr : Hid (Z = .error (11, (s.size : Int))) := Lib.hid (by rw [← hZ2, ← bl_len]; simp)
          clear hZ2
          have X3 := (A.err.set (i := 0) (v := .int .i64 11)).set (i := 1) (v := .int .i64 (s.size : Int))
          have X3 : Bx (((wr).setCell ⟨e0, 0, none⟩ (.int .i64 11)).setCell ⟨e0, 1, none⟩ (.int .i64 (s.size : Int))) e0 #[.int .i64 11, .int .i64 (s.size : Int)] 38 := X3
          have hx3 := X3.cell
          have hB := Below.setCell (Below.setCell A.below (p := ⟨e0, 0, none⟩) A.lo.2.2.2.2 (.int .i64 11)) (p := ⟨e0, 1, none⟩) A.lo.2.2.2.2 (.int .i64 (s.size : Int))
          go_wp2_with fail
          exact bodyPost_ret (v := .tuple #[.pointer none, .agg #[.int .i64 11, .int .i64 (s.size : Int)]]) (by simp [results, Tryz.results13, go_sem, hx3]) rfl (by rw [hZr.out]; exact ⟨rfl, hB⟩)
        | some m =>
          have hZr : Hid (Z = .ok ⟨bl s, lines, g.labels, g.vars, data, g.spans⟩) := Lib.hid (by rw [← hZ2]; simp)
          clear hZ2
          have X3 := (A.err.set (i := 0) (v := .int .i64 0)).set (i := 1) (v := .int .i64 0)
          have X3 : Bx (((wr).setCell ⟨e0, 0, none⟩ (.int .i64 0)).setCell ⟨e0, 1, none⟩ (.int .i64 0)) e0 #[.int .i64 0, .int .i64 0] 38 := X3
          have hx3 := X3.cell
          have hB := Below.setCell (Below.setCell A.below (p := ⟨e0, 0, none⟩) A.lo.2.2.2.2 (.int .i64 0)) (p := ⟨e0, 1, none⟩) A.lo.2.2.2.2 (.int .i64 0)
          have hC := (A.code hdn).other A.err (w' := (wr.setCell ⟨e0, 0, none⟩ (.int .i64 0)).setCell ⟨e0, 1, none⟩ (.int .i64 0)) (fun k hk hne => (Below.heap_setCell _ ⟨e0, 1, none⟩ _ k hne).trans (Below.heap_setCell _ ⟨e0, 0, none⟩ _ k hne))
          have hC := Lib.hid hC
          go_wp2_with fail
          exact bodyPost_ret (v := .tuple #[.pointer (some ⟨p, 0, none⟩), .agg #[.int .i64 0, .int .i64 0]]) (by simp [results, Tryz.results13, go_sem, hx3]) rfl (by rw [hZr.out]; exact ⟨p, rfl, hC.out, hB⟩)
end Go.Proofs.YtfkfdffhajokkaaGreatDoor
