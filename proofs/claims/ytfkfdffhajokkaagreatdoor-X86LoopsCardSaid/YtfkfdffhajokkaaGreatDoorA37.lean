/- What the statement X86Words answers; conditions: two numbers of 64 bits, two numbers, the library's variables and the table of forms as they begin. -/
import Derived.Test.YtfkfdffhajokkaaGreatDoorA36
import Derived.Deep.DeepCutAuto
import Derived.Deep.RegionHeld3
namespace Go.Proofs.YtfkfdffhajokkaaGreatDoor
open Go.RowKit X Pl
set_option linter.unusedSimpArgs false
def opStrs : Array Value := #[.string ⟨#[97, 100, 100, 113]⟩, .string ⟨#[115, 117, 98, 113]⟩, .string ⟨#[105, 109, 117, 108, 113]⟩, .string ⟨#[97, 110, 100, 113]⟩, .string ⟨#[111, 114, 113]⟩, .string ⟨#[120, 111, 114, 113]⟩]
def opNums (a b : Int) : Array Value := #[.int .i64 (wrap64 (a + b)), .int .i64 (wrap64 (a - b)), .int .i64 (wrap64 (a * b)), .int .i64 (Go.bits .and .i64 a b), .int .i64 (Go.bits .or .i64 a b), .int .i64 (Go.bits .xor .i64 a b)]
theorem op_at (a b : Int) (k : Nat) (h : k < 6) : ∃ op sub, (op, sub) ∈ opTab ∧ opStrs[k]? = some (.string (St op)) ∧ (opNums a b)[k]? = some (.int .i64 (plain sub a b)) := by
  have h : k = 0 ∨ k = 1 ∨ k = 2 ∨ k = 3 ∨ k = 4 ∨ k = 5 := by omega
  rcases h with rfl | rfl | rfl | rfl | rfl | rfl
  · exact ⟨([97, 100, 100, 113] : Str), 1, by decide, rfl, rfl⟩
  · exact ⟨([115, 117, 98, 113] : Str), 2, by decide, rfl, rfl⟩
  · exact ⟨([105, 109, 117, 108, 113] : Str), 3, by decide, rfl, rfl⟩
  · exact ⟨([97, 110, 100, 113] : Str), 8, by decide, rfl, rfl⟩
  · exact ⟨([111, 114, 113] : Str), 9, by decide, rfl, rfl⟩
  · exact ⟨([120, 111, 114, 113] : Str), 10, by decide, rfl, rfl⟩
def condBools (a b : Int) : Array Value := #[.bool (a == b), .bool (a != b), .bool (decide (a < b)), .bool (decide (a ≤ b)), .bool (decide (b < a)), .bool (decide (b ≤ a)), .bool (decide (IntKind.u64.wrap a < IntKind.u64.wrap b)), .bool (decide (IntKind.u64.wrap a ≤ IntKind.u64.wrap b)), .bool (decide (IntKind.u64.wrap b < IntKind.u64.wrap a)), .bool (decide (IntKind.u64.wrap b ≤ IntKind.u64.wrap a))]
theorem cond_at (a b : Int) (k : Nat) (h : k < 10) : ∃ cn, cn ∈ conds ∧ (strCells conds)[k]? = some (.string (St cn)) ∧ (condBools a b)[k]? = some (.bool (cond cn a b)) := by
  have h : k = 0 ∨ k = 1 ∨ k = 2 ∨ k = 3 ∨ k = 4 ∨ k = 5 ∨ k = 6 ∨ k = 7 ∨ k = 8 ∨ k = 9 := by omega
  rcases h with rfl | rfl | rfl | rfl | rfl | rfl | rfl | rfl | rfl | rfl
  · exact ⟨([101] : Str), by decide, rfl, rfl⟩
  · exact ⟨([110, 101] : Str), by decide, rfl, rfl⟩
  · exact ⟨([108] : Str), by decide, rfl, rfl⟩
  · exact ⟨([108, 101] : Str), by decide, rfl, rfl⟩
  · exact ⟨([103] : Str), by decide, rfl, rfl⟩
  · exact ⟨([103, 101] : Str), by decide, rfl, rfl⟩
  · exact ⟨([98] : Str), by decide, rfl, rfl⟩
  · exact ⟨([98, 101] : Str), by decide, rfl, rfl⟩
  · exact ⟨([97] : Str), by decide, rfl, rfl⟩
  · exact ⟨([97, 101] : Str), by decide, rfl, rfl⟩
/-- The words' text ahead of its rounds. -/
def wordsStart (a b : Int) (op c : Str) : Str :=
  ([109, 97, 105, 110, 58, 10, 9, 109, 111, 118, 97, 98, 115, 113, 9, 36] : Str) ++ Lib.itoa a ++ ([44, 32, 37, 114, 97, 120, 10, 9, 109, 111, 118, 97, 98, 115, 113, 9, 36] : Str) ++ Lib.itoa b ++ ([44, 32, 37, 114, 98, 120, 10, 9, 99, 109, 112, 113, 9, 37, 114, 98, 120, 44, 32, 37, 114, 97, 120, 10, 9, 115, 101, 116] : Str) ++ c ++ ([9, 37, 100, 105, 108, 10, 9, 115, 121, 115, 111, 117, 116, 10, 9] : Str) ++ op ++ ([9, 37, 114, 98, 120, 44, 32, 37, 114, 97, 120, 10] : Str)
def wordsRound : Str := ([9, 109, 111, 118, 113, 9, 37, 114, 97, 120, 44, 32, 37, 114, 100, 105, 10, 9, 115, 121, 115, 111, 117, 116, 10, 9, 115, 104, 114, 113, 9, 36, 56, 44, 32, 37, 114, 97, 120, 10] : Str)
def wordsEnd : Str := ([9, 114, 101, 116, 10] : Str)
theorem itoa_8 : Lib.itoa 8 = ([56] : Str) := by
  unfold Lib.itoa
  rw [if_neg (by decide), show (8 : Int).toNat = 8 from rfl, Lib.decDigits, dif_pos (by decide)]
  rfl
set_option maxRecDepth 100000 in
theorem words_text (a b : Int) (op c : Str) : wordsText a b op c = wordsStart a b op c ++ (List.replicate 8 wordsRound).flatten ++ wordsEnd := by
  unfold wordsText wordsIns wordsHead roundIns wordsStart
  rw [itoa_8]
  simp [joinLines, tabs, insText, wordsRound, wordsEnd, List.replicate_succ]
theorem op_cell {w w' : World} {b k : Nat} {op : Str} (X : Bx w b opStrs 9) (ho : opStrs[k]? = some (.string (St op))) (hb : Below w.heap.size w w') : w'.cell? ⟨b, k, none⟩ = some (.string (St op)) := by rw [(X.below hb).cell]; exact ho
theorem itoa_len {v : Int} (h : In64 v) : (Lib.itoa v).length ≤ 21 := by
  unfold In64 at h
  unfold Lib.itoa
  split
  · have := decDigits_le 19 v.natAbs (by omega)
    simp only [List.length_cons]
    omega
  · have := decDigits_le 19 v.toNat (by omega)
    omega
theorem op_len : ∀ q ∈ opTab, q.1.length ≤ 5 := by decide
theorem conds_len2 : ∀ c ∈ conds, c.length ≤ 2 := by decide
theorem St_app (a b : Str) : St a ++ St b = St (a ++ b) := by
  have : (St a ++ St b).data = (St (a ++ b)).data := by
    rw [ByteArray.data_append]
    simp
  generalize St a ++ St b = x at *
  generalize St (a ++ b) = y at *
  obtain ⟨x⟩ := x
  obtain ⟨y⟩ := y
  rw [ByteArray.mk.injEq]
  exact this
set_option maxHeartbeats 4000000 in
set_option maxRecDepth 100000 in
theorem Words_any (a b x y : Int) (ha : In64 a) (hb : In64 b) (w : World) (E : Env w) (F : FormsAt w) : Calls Tryz.prog 4 #[.int .i64 a, .int .i64 b, .int .i64 x, .int .i64 y] w fun e w' => e = .returned (.bool true) ∧ Below w.heap.size w w' := by
  have hk := low_range x 6 (by decide)
  have hc := low_range y 10 (by decide)
  have HLk := fun w => Lib.hid (Low_any x 6 (by decide) (by decide) w)
  have HLc := fun w => Lib.hid (Low_any y 10 (by decide) (by decide) w)
  obtain ⟨k, hkk⟩ : ∃ k : Nat, low x 6 = k := ⟨(low x 6).toNat, by omega⟩
  obtain ⟨c, hcc⟩ : ∃ k : Nat, low y 10 = k := ⟨(low y 10).toNat, by omega⟩
  rw [hkk] at hk
  rw [hcc] at hc
  simp only [hkk] at HLk
  simp only [hcc] at HLc
  have hk6 : (k : Int) < 6 := hk.2
  have hc10 : (c : Int) < 10 := hc.2
  obtain ⟨op, sub, hop, ho1, ho2⟩ := op_at a b k (by omega)
  obtain ⟨n, hn⟩ : ∃ n, plain sub a b = n := ⟨_, rfl⟩
  rw [hn] at ho2
  obtain ⟨cn, hcn, hd1, hd2⟩ := cond_at a b c (by omega)
  obtain ⟨is, his⟩ : ∃ n, cond cn a b = n := ⟨_, rfl⟩
  rw [his] at hd2
  clear hk hc hkk hcc
  have B1 := balloc (Below.refl w.heap.size w) (.cells opStrs 9)
  have X1 := Bx.new (w := w) (c := opStrs) (T := 9)
  have X2 := Bx.new (w := w.alloc (.cells opStrs 9)) (c := opNums a b) (T := 2)
  rw [World.size_alloc] at X2
  have hk2 : ((w.alloc (.cells opStrs 9)).alloc (.cells (opNums a b) 2)).cell? ⟨w.heap.size + 1, k, none⟩ = some (.int .i64 n) := by rw [X2.cell]; exact ho2
  have X3 := Bx.new (w := (w.alloc (.cells opStrs 9)).alloc (.cells (opNums a b) 2)) (c := condBools a b) (T := 4)
  rw [World.size_alloc, World.size_alloc] at X3
  have hk3 : (((w.alloc (.cells opStrs 9)).alloc (.cells (opNums a b) 2)).alloc (.cells (condBools a b) 4)).cell? ⟨w.heap.size + 1 + 1, c, none⟩ = some (.bool is) := by rw [X3.cell]; exact hd2
  have B3 := balloc (balloc B1 (.cells (opNums a b) 2)) (.cells (condBools a b) 4)
  have X1 := Lib.hid ((X1.alloc (o := .cells (opNums a b) 2)).alloc (o := .cells (condBools a b) 4))
  unfold opStrs opNums at hk2
  have hk3' := hk3
  unfold opStrs opNums condBools at hk3'
  go_enter Tryz.func4, Tryz.ntmps4
  go_wp2_with fail
  refine ((HLk _).out).mono ?_
  rintro e w1 ⟨rfl, rfl⟩
  go_wp2_with fail
  refine ((HLc _).out).mono ?_
  rintro e w1 ⟨rfl, rfl⟩
  go_wp2_with fail
  go_cut [16] (fun s16 wx => s16 = .string (St (wordsStart a b op cn)) ∧ Below w.heap.size w wx)
  case first =>
    generalize hG : ((w.alloc (.cells opStrs 9)).alloc (.cells (opNums a b) 2)).alloc (.cells (condBools a b) 4) = wg at X1 B3
    unfold opStrs opNums condBools at hG
    rw [hG]
    have la := itoa_len ha
    have lb := itoa_len hb
    have lo := op_len _ hop
    have lc := conds_len2 _ hcn
    simp only at lo
    have HD := fun n (h : In64 n) w => Lib.hid (decimal_any n h w)
    have ha' := Lib.hid ha
    have hb' := Lib.hid hb
    have hcd : ∀ w : World, (w.alloc (.cells (strCells conds) 9)).cell? ⟨w.heap.size, c, none⟩ = some (.string (St cn)) := fun w => by rw [Bx.new.cell]; exact hd1
    have hP : wordsStart a b op cn = ([109, 97, 105, 110, 58, 10, 9, 109, 111, 118, 97, 98, 115, 113, 9, 36] : Str) ++ Lib.itoa a ++ ([44, 32, 37, 114, 97, 120, 10, 9, 109, 111, 118, 97, 98, 115, 113, 9, 36] : Str) ++ Lib.itoa b ++ ([44, 32, 37, 114, 98, 120, 10, 9, 99, 109, 112, 113, 9, 37, 114, 98, 120, 44, 32, 37, 114, 97, 120, 10, 9, 115, 101, 116] : Str) ++ cn ++ ([9, 37, 100, 105, 108, 10, 9, 115, 121, 115, 111, 117, 116, 10, 9] : Str) ++ op ++ ([9, 37, 114, 98, 120, 44, 32, 37, 114, 97, 120, 10] : Str) := rfl
    obtain ⟨A, hA⟩ : ∃ A, Lib.itoa a = A := ⟨_, rfl⟩
    obtain ⟨Bd, hBd⟩ : ∃ A, Lib.itoa b = A := ⟨_, rfl⟩
    rw [hA] at la hP
    rw [hBd] at lb hP
    have l1 : ¬ 9223372036854775807 < 16 + A.length := by omega
    have l2 : ¬ 9223372036854775807 < 16 + A.length + 17 := by omega
    have l3 : ¬ 9223372036854775807 < 16 + A.length + 17 + Bd.length := by omega
    have l4 : ¬ 9223372036854775807 < 16 + A.length + 17 + Bd.length + 28 := by omega
    have l5 : ¬ 9223372036854775807 < 16 + A.length + 17 + Bd.length + 28 + cn.length := by omega
    have l6 : ¬ 9223372036854775807 < 16 + A.length + 17 + Bd.length + 28 + cn.length + 15 := by omega
    have l7 : ¬ 9223372036854775807 < 16 + A.length + 17 + Bd.length + 28 + cn.length + 15 + op.length := by omega
    have l8 : ¬ 9223372036854775807 < 16 + A.length + 17 + Bd.length + 28 + cn.length + 15 + op.length + 12 := by omega
    replace hP := Lib.hid hP
    clear la lb lo lc hG hn his hk2 hk3 hk3' ho2 hd2 HLk HLc X2 X3 B1 ha hb
    have hyo0 := op_cell X1.out ho1 (Below.refl _ _)
    go_region_with (first | (go_at_call 11; refine ((HD _ ?_ _).out).mono ?_; (first | exact ha'.out | exact hb'.out); rintro e wa ⟨rfl, ba⟩; (first | rw [hA] | rw [hBd]); have bw : Below wg.heap.size wg wa := (by (repeat' (first | with_reducible assumption | with_reducible exact Below.refl _ _ | (with_reducible refine below_drewN ?_ _) | (with_reducible refine Below.drew ?_) | (with_reducible refine balloc ?_ _) | (with_reducible refine Below.setCell ?_ (by first | exact Nat.le_refl _ | (simp; done) | omega | (simp; omega)) _) | (with_reducible refine bstep ?_ (by with_reducible assumption))))); have hyo := op_cell X1.out ho1 bw; have hyo3 := op_cell X1.out ho1 (balloc bw (.cells (strCells conds) 9))) | (go_at_call 12; refine (Conds_any _).mono ?_; rintro e wd ⟨rfl, rfl⟩))
    all_goals
      go_wp2_with fail
      go_meet
      refine ⟨?_, by (repeat' (first | with_reducible assumption | with_reducible exact Below.refl _ _ | (with_reducible refine below_drewN ?_ _) | (with_reducible refine Below.drew ?_) | (with_reducible refine balloc ?_ _) | (with_reducible refine Below.setCell ?_ (by first | exact Nat.le_refl _ | (simp; done) | omega | (simp; omega)) _) | (with_reducible refine bstep ?_ (by with_reducible assumption))))⟩
      rw [hP.out]
      show Value.string (St ([109, 97, 105, 110, 58, 10, 9, 109, 111, 118, 97, 98, 115, 113, 9, 36] : Str) ++ St A ++ St ([44, 32, 37, 114, 97, 120, 10, 9, 109, 111, 118, 97, 98, 115, 113, 9, 36] : Str) ++ St Bd ++ St ([44, 32, 37, 114, 98, 120, 10, 9, 99, 109, 112, 113, 9, 37, 114, 98, 120, 44, 32, 37, 114, 97, 120, 10, 9, 115, 101, 116] : Str) ++ St cn ++ St ([9, 37, 100, 105, 108, 10, 9, 115, 121, 115, 111, 117, 116, 10, 9] : Str) ++ St op ++ St ([9, 37, 114, 98, 120, 44, 32, 37, 114, 97, 120, 10] : Str)) = _
      simp only [St_app]
  case rest =>
    obtain ⟨rfl, B4⟩ := hcut
    obtain ⟨P, hP⟩ : ∃ P, wordsStart a b op cn = P := ⟨_, rfl⟩
    have hPl : P.length ≤ 200 := by
      have la := itoa_len ha
      have lb := itoa_len hb
      have lo := op_len _ hop
      have lc := conds_len2 _ hcn
      simp only at lo
      rw [← hP]
      unfold wordsStart
      simp only [List.length_append, List.length_cons, List.length_nil]
      omega
    rw [hP]
    have hT := words_text a b op cn
    rw [hP] at hT
    have hRD := words_read a b op cn sub ha hb hop hcn
    obtain ⟨mr, hrun, hrk, hrc, hro⟩ := words_run a b op cn sub hb hop hcn
    rw [hn, his] at hro
    replace hT := Lib.hid hT
    replace hRD := Lib.hid hRD
    replace hrun := Lib.hid hrun
    clear hk2 hk3 hk3' X1 X2 X3 B1 B3 HLk HLc ho1 ho2 hd1 hd2 hk6 hc10
    generalize wc = w7 at *
    go_upto_if 107 with fail
    go_cut [] (fun wx => Bx wx w7.heap.size #[.int .u8 (if is then 1 else 0)] 5 ∧ Below w.heap.size w wx)
    case first =>
      have X7 := Bx.new (w := w7) (c := #[.int .u8 0]) (T := 5)
      have B7 := balloc B4 (.cells #[.int .u8 0] 5)
      cases is
      · go_wp2_with fail
        go_meet
        exact ⟨X7, B7⟩
      · go_wp2_with fail
        go_meet
        exact ⟨Bx.new, balloc B4 _⟩
    case rest =>
      obtain ⟨X8, B8⟩ := hcut
      obtain ⟨b0, hb0⟩ : ∃ b0 : UInt8, (if is = true then (1 : UInt8) else 0) = b0 := ⟨_, rfl⟩
      have hb1 : (if is = true then (1 : Int) else 0) = (b0.toNat : Int) := by rw [← hb0]; cases is <;> rfl
      rw [hb1] at X8
      rw [hb0] at hro
      replace hro := Lib.hid hro
      clear hb0 hb1 his
      have hw7 := B4.size
      have O8 : wc.ownsRow w.heap.size 5 1 (.slice (some ⟨w7.heap.size, 0, none⟩) 1 1) 1 [.int .u8 (b0.toNat : Int)] := ⟨rfl, .inr ⟨_, 1, _, rfl, hw7, X8, Nat.le_refl _, by decide, rfl, rfl⟩⟩
      clear X8
      go_wp2_with fail
      go_loopg [18, 16, 17] 9 (fun q v18 v16 v17 wr => ∃ (i : Nat) (Q : Str), v18 = .int .i64 i ∧ i ≤ 8 ∧ q + i = 9 ∧ v16 = .string (St Q) ∧ Hid (Q = P ++ (List.replicate i wordsRound).flatten) ∧ Q.length ≤ 200 + 40 * i ∧ wr.ownsRow w.heap.size 5 1 v17 (1 + i) (.int .u8 (b0.toNat : Int) :: (List.range i).map fun j => .int .u8 ((X.byteOf n j).toNat : Int)) ∧ Below w.heap.size w wr)
      case atStart => exact ⟨0, P, rfl, by omega, rfl, rfl, Lib.hid (by simp), by omega, O8, B8⟩
      case round =>
        obtain ⟨i, Q, rfl, hi, hq, rfl, hQ, hQl, OW, hB⟩ := hrel
        obtain ⟨ado, capo, rfl, -⟩ := ownsRow_at OW
        clear O8 B8 B4 hP
        by_cases hlt : i < 8
        · have hl1 : ¬ 9223372036854775807 < Q.length + 40 := by omega
          have hl1' : (i : Int) < 8 := by omega
          have hle := hB.size
          have hb := byte_cell n i
          have Y := Bx.new (w := wr) (c := #[Value.int .u8 ((X.byteOf n i).toNat : Int)]) (T := 5)
          have oc1 : ∀ u ∈ [Value.int .u8 ((X.byteOf n i).toNat : Int)], u.oneCell' = true := by intro u hu; simp only [List.mem_singleton] at hu; subst hu; rfl
          go_wp2_with (at_builtin; refine wpList_app1 rfl (.tmp 116) (.tmp 123) 23 rfl w.heap.size 5 _ 1 1 und23 info5 rfl (by decide) (.slice ado (1 + i) capo) (1 + i) _ rfl (OW.alloc _) wr.heap.size 1 [Value.int .u8 ((X.byteOf n i).toNat : Int)] rfl rfl (fun j hj => by rw [Y.cell]; simp) oc1 (by omega) (by decide) (by simp; omega) ?_)
          intro v' w' O' G'
          obtain ⟨adn, capn, rfl, -⟩ := ownsRow_at O'
          have B' := bgrown (balloc hB _) (OW.alloc _) (Nat.le_refl _) G'
          go_wp2_with fail
          go_roundg (gk - 1)
          case measure => omega
          case rel =>
            refine ⟨i + 1, Q ++ wordsRound, rfl, by omega, by omega, ?_, Lib.hid ?_, ?_, ?_, by (repeat' (first | with_reducible assumption | with_reducible exact Below.refl _ _ | (with_reducible refine below_drewN ?_ _) | (with_reducible refine Below.drew ?_) | (with_reducible refine balloc ?_ _) | (with_reducible refine Below.setCell ?_ (by first | exact Nat.le_refl _ | (simp; done) | omega | (simp; omega)) _) | (with_reducible refine bstep ?_ (by with_reducible assumption))))⟩
            · exact congrArg Value.string (St_app Q wordsRound)
            · rw [hQ.out, List.append_assoc, List.replicate_succ', List.flatten_append]; simp
            · rw [List.length_append]; have : wordsRound.length = 40 := rfl; omega
            · rw [show 1 + (i + 1) = 1 + i + 1 by omega, List.range_succ, List.map_append]
              exact O'
        · obtain rfl : i = 8 := by omega
          have hQT : St Q ++ (⟨#[9, 114, 101, 116, 10]⟩ : ByteArray) = St (wordsText a b op cn) := by
            rw [hT.out, ← hQ.out]
            exact St_app Q wordsEnd
          have hTl : (wordsText a b op cn).length ≤ 1000 := by
            rw [hT.out, ← hQ.out, List.length_append]
            have : wordsEnd.length = 5 := rfl
            omega
          have hTs : (St (wordsText a b op cn)).size ≤ 1048575 := by rw [St_size]; omega
          have HRd := fun w E F => Lib.hid (Read_any (St (wordsText a b op cn)) hTs w E F)
          simp only [bl_St, hRD.out] at HRd
          have ok := read_code (s := wordsText a b op cn) (by omega) hRD.out
          have HRn := fun w B p hC E => Lib.hid (Run_any w B p _ _ hC ok E none 0 [] (InAt.nil w) 100 64 (by decide) (by decide) (by decide) (by decide) (by decide))
          simp only [hrun.out, hrk, hrc] at HRn
          obtain ⟨wt, hwt⟩ : ∃ l, b0 :: (List.range 8).map (X.byteOf n) = l := ⟨_, rfl⟩
          have hro2 : mr.out = wt := by rw [hro.out, hwt]
          rw [hro2] at HRn
          have hwl : wt.length = 9 := by rw [← hwt]; simp
          have OW2 : wr.ownsRow w.heap.size 5 1 (.slice ado (1 + 8) capo) wt.length (wt.map fun b => .int .u8 (b.toNat : Int)) := by
            rw [hwl, ← hwt, List.map_cons, List.map_map]
            exact OW
          have HSm := fun w va vb ha hb => Lib.hid (SameOutcome_any w 1 0 1 0 va vb wt wt ha hb (by omega) (by omega))
          have hl1 : ¬ 9223372036854775807 < Q.length + 5 := by omega
          have HAw := fun w E F => Lib.hid (awake_any w E F)
          have E1 := E.below hB
          have F1 := F.below hB
          clear OW hro hro2 hwl hwt hT hRD hrun hQ ok hTs hTl hrk hrc
          go_wp2_with fail
          refine ((HRd _ E1 F1).out).mono ?_
          rintro e w1 ⟨p, rfl, hC, b1⟩
          have B1 := bstep hB b1
          have OW3 := ownsRow_below OW2 b1
          have X3 := Bx.new (w := w1) (c := #[.int .i64 0, .int .i64 0]) (T := 38)
          have b3 := balloc (Below.refl _ w1) (.cells #[.int .i64 0, .int .i64 0] 38)
          have hx3 := X3.cell
          have C3 := hC.below b3
          have B3 := bstep B1 b3
          have OW4 := ownsRow_below OW3 b3
          have E3 := E.below B3
          clear E1 F1 OW2 OW3 hC b1 B1 X3 b3 HRd
          go_wp2_with fail
          refine ((HRn _ _ _ C3 E3).out).mono ?_
          rintro e w4 ⟨v4, rfl, O4, b4⟩
          have I4 := InAt.of_row O4
          have I5 := InAt.of_row (ownsRow_below OW4 b4)
          have B4 := bstep B3 b4
          obtain ⟨ad4, cap4, rfl, -⟩ := ownsRow_at O4
          clear C3 E3 hx3 O4 OW4 b4 B3 HRn
          go_wp2_with fail
          refine ((HSm _ _ _ I4 I5).out).mono ?_
          rintro e w5 ⟨rfl, b5⟩
          have B5 := bstep B4 b5
          have E5 := E.below B5
          have F5 := F.below B5
          clear I4 I5 B4 b5 HSm
          go_wp2_with fail
          refine ((HAw _ E5 F5).out).mono ?_
          rintro e w6 ⟨rfl, b6⟩
          go_wp2_with fail
          go_ret
          exact ⟨rfl, bstep B5 b6⟩
end Go.Proofs.YtfkfdffhajokkaaGreatDoor
