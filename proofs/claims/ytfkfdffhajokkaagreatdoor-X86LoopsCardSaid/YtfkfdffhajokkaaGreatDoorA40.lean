/- What the statement X86Stack answers; conditions: bytes in memory, the library's variables and the table of forms as they begin. -/
import Derived.Test.YtfkfdffhajokkaaGreatDoorA37
namespace Go.Proofs.YtfkfdffhajokkaaGreatDoor
open Go.RowKit X Pl
set_option linter.unusedSimpArgs false
def pushText (n : UInt8) : Str := ([9, 109, 111, 118, 113, 9, 36] : Str) ++ Lib.itoa (n.toNat : Int) ++ ([44, 32, 37, 114, 98, 120, 10, 9, 112, 117, 115, 104, 113, 9, 37, 114, 98, 120, 10] : Str)
def popText : Str := ([9, 112, 111, 112, 113, 9, 37, 114, 100, 105, 10, 9, 115, 121, 115, 111, 117, 116, 10] : Str)
def stackTextB (ns : List UInt8) : Str := ([109, 97, 105, 110, 58, 10] : Str) ++ ns.flatMap pushText
theorem joinLines_tabs : ∀ (l r : List (Str × Ln)), joinLines (tabs (l ++ r)) = joinLines (tabs l) ++ joinLines (tabs r) := by
  intro l r
  simp [joinLines, tabs]
theorem stack_push : ∀ ns : List UInt8, joinLines (tabs (ns.flatMap pushIns)) = ns.flatMap pushText
  | [] => rfl
  | n :: ns => by
    rw [List.flatMap_cons, joinLines_tabs, stack_push ns, List.flatMap_cons]
    simp [pushIns, joinLines, tabs, insText, pushText]
theorem stack_pop : ∀ ns : List UInt8, joinLines (tabs (ns.flatMap fun _ => popIns)) = (List.replicate ns.length popText).flatten
  | [] => rfl
  | n :: ns => by
    rw [List.flatMap_cons, joinLines_tabs, stack_pop ns, List.length_cons, List.replicate_succ, List.flatten_cons]
    rfl
theorem stack_text (ns : List UInt8) : stackText ns = stackTextB ns ++ (List.replicate ns.length popText).flatten ++ ([9, 114, 101, 116, 10] : Str) := by
  have e : stackText ns = ([109, 97, 105, 110, 58, 10] : Str) ++ joinLines (tabs (stackIns ns)) := rfl
  rw [e]
  unfold stackIns stackTextB
  rw [joinLines_tabs, joinLines_tabs, stack_push, stack_pop]
  simp only [List.append_assoc]
  rfl
theorem stack_len (ns : List UInt8) : (stackTextB ns).length ≤ 6 + 60 * ns.length := by
  unfold stackTextB
  rw [List.length_append]
  have : ∀ l : List UInt8, (l.flatMap pushText).length ≤ 60 * l.length := by
    intro l
    induction l with
    | nil => simp
    | cons n l ih =>
      rw [List.flatMap_cons, List.length_append, List.length_cons]
      have hn := n.toNat_lt
      have h := itoa_len (v := (n.toNat : Int)) (by unfold In64; omega)
      have : (pushText n).length ≤ 50 := by
        unfold pushText
        simp only [List.length_append, List.length_cons, List.length_nil]
        omega
      omega
  have := this ns
  simp only [List.length_cons, List.length_nil]
  omega
theorem stack_step (ns : List UInt8) (i : Nat) (h : i < ns.length) : stackTextB (ns.take (i + 1)) = stackTextB (ns.take i) ++ pushText (ns.getD i 0) := by
  unfold stackTextB
  rw [List.take_add_one, List.getD_eq_getElem?_getD, List.getElem?_eq_getElem h, Option.getD_some, Option.toList_some, List.flatMap_append, List.flatMap_cons, List.flatMap_nil, List.append_nil, List.append_assoc]
set_option maxHeartbeats 4000000 in
set_option maxRecDepth 100000 in
theorem Stack_any (ns : List UInt8) (ad : Option Addr) (cap : Nat) (x : Int) (w : World) (hin : InAt w (.slice ad ns.length cap) ns) (E : Env w) (F : FormsAt w) :
    Calls Tryz.prog 5 #[.slice ad ns.length cap, .int .i64 x] w fun e w' => e = .returned (.bool true) ∧ Below w.heap.size w w' := by
  by_cases hl : 20 < ns.length
  · have hd : (20 : Int) < (ns.length : Int) := by omega
    have HAw := fun w E F => Lib.hid (awake_any w E F)
    go_enter Tryz.func5, Tryz.ntmps5
    go_wp2_with fail
    refine ((HAw _ E F).out).mono ?_
    rintro e w6 ⟨rfl, b6⟩
    go_wp2_with fail
    go_ret
    exact ⟨rfl, b6⟩
  · have hd : ¬ (20 : Int) < (ns.length : Int) := by omega
    have hk := low_range x 15 (by decide)
    have HLk := fun w => Lib.hid (Low_any x 15 (by decide) (by decide) w)
    obtain ⟨k, hkk⟩ : ∃ k : Nat, low x 15 = k := ⟨(low x 15).toNat, by omega⟩
    rw [hkk] at hk
    simp only [hkk] at HLk
    have hk15 : (k : Int) < 15 := hk.2
    clear hk hkk
    obtain ⟨n, hn⟩ : ∃ n : Nat, ns.length = n := ⟨_, rfl⟩
    rw [hn] at hl hd hin ⊢
    go_enter Tryz.func5, Tryz.ntmps5
    go_wp2_with fail
    refine ((HLk _).out).mono ?_
    rintro e w1 ⟨rfl, hw1⟩
    obtain rfl := hw1.symm
    go_wp2_with fail
    go_loopg [5, 6] (n + 1) (fun q v5 v6 wr => ∃ (i : Nat) (Q : Str), v6 = .int .i64 i ∧ i ≤ n ∧ q + i = n + 1 ∧ v5 = .string (St Q) ∧ Hid (Q = stackTextB (ns.take i)) ∧ Q.length ≤ 6 + 60 * i ∧ Below w.heap.size w wr)
    case atStart => exact ⟨0, ([109, 97, 105, 110, 58, 10] : Str), rfl, by omega, rfl, rfl, Lib.hid rfl, by decide, Below.refl _ _⟩
    case round =>
      obtain ⟨i, Q, rfl, hi, hq, rfl, hQ, hQl, hB⟩ := hrel
      by_cases hlt : i < n
      · have hlt' : (i : Int) < (n : Int) := by omega
        obtain ⟨ad0, cap0, e0, hcap, hcells⟩ := hin.below hB
        rw [hn] at e0 hcells
        simp only [Value.slice.injEq] at e0
        obtain ⟨rfl, -, rfl⟩ := e0
        obtain ⟨b, o, rfl, hcl⟩ := hcells (by omega)
        have hc := hcl i hlt
        obtain ⟨c, hcc⟩ : ∃ c, ns.getD i 0 = c := ⟨_, rfl⟩
        rw [hcc] at hc
        have hcn := c.toNat_lt
        have h64 : In64 (c.toNat : Int) := by unfold In64; omega
        obtain ⟨A, hA⟩ : ∃ A, Lib.itoa (c.toNat : Int) = A := ⟨_, rfl⟩
        have la := itoa_len h64
        rw [hA] at la
        have HD := fun w => Lib.hid (decimal_any (c.toNat : Int) h64 w)
        have hP : Hid (pushText c = ([9, 109, 111, 118, 113, 9, 36] : Str) ++ A ++ ([44, 32, 37, 114, 98, 120, 10, 9, 112, 117, 115, 104, 113, 9, 37, 114, 98, 120, 10] : Str)) := Lib.hid (by rw [← hA]; rfl)
        have l1 : ¬ 9223372036854775807 < Q.length + 7 := by omega
        have l2 : ¬ 9223372036854775807 < Q.length + 7 + A.length := by omega
        have l3 : ¬ 9223372036854775807 < Q.length + 7 + A.length + 19 := by omega
        have hwr : IntKind.i64.wrap (c.toNat : Int) = (c.toNat : Int) := by rw [IntKind.wrap_i64]; omega
        have hwr2 : IntKind.i64.wrap ((i : Int) + 1) = (i : Int) + 1 := by rw [IntKind.wrap_i64]; omega
        simp only [hA] at HD
        clear hcells hcl hd hl hcn
        go_wp2_with fail
        refine ((HD _).out).mono ?_
        rintro e w3 ⟨rfl, b3⟩
        have B3 := bstep hB b3
        go_wp2_with fail
        go_roundg (gk - 1)
        case measure => omega
        case rel =>
          refine ⟨i + 1, Q ++ pushText c, rfl, by omega, by omega, ?_, Lib.hid ?_, ?_, B3⟩
          · rw [hP.out]
            show Value.string (St Q ++ St ([9, 109, 111, 118, 113, 9, 36] : Str) ++ St A ++ St ([44, 32, 37, 114, 98, 120, 10, 9, 112, 117, 115, 104, 113, 9, 37, 114, 98, 120, 10] : Str)) = _
            simp only [St_app, List.append_assoc]
          · rw [stack_step ns i (by omega), hcc, hQ.out]
          · rw [hP.out]; simp only [List.length_append, List.length_cons, List.length_nil]; omega
      · obtain rfl : i = n := by omega
        rw [← hn, List.take_length] at hQ
        have hd2 : ¬ ((i : Int) < (i : Int)) := by omega
        have O0 : wr.ownsRow w.heap.size 5 1 (.slice none 0 0) 0 [] := ⟨rfl, .inl ⟨rfl, rfl⟩⟩
        obtain ⟨P, hP⟩ : ∃ P, Q = P := ⟨_, rfl⟩
        rw [hP] at hQ hQl ⊢
        clear hP
        have hw0 : IntKind.i64.wrap ((i : Int) - 1) = (i : Int) - 1 := by rw [IntKind.wrap_i64]; omega
        go_wp2_with fail
        go_loopg [5, 7, 8] (i + 1) (fun q v5 v7 v8 wr => ∃ (j : Nat) (Q : Str), v8 = .int .i64 ((i : Int) - 1 - j) ∧ j ≤ i ∧ q + j = i + 1 ∧ v5 = .string (St Q) ∧ Hid (Q = P ++ (List.replicate j popText).flatten) ∧ Q.length ≤ 6 + 60 * i + 20 * j ∧ wr.ownsRow w.heap.size 5 1 v7 j ((ns.reverse.take j).map fun b => .int .u8 (b.toNat : Int)) ∧ Below w.heap.size w wr)
        case atStart => exact ⟨0, P, by simp, by omega, rfl, rfl, Lib.hid (by simp), by omega, O0, hB⟩
        case round =>
          obtain ⟨j, Q, rfl, hj, hq, rfl, hQ2, hQl2, OW, hB2⟩ := hrel
          obtain ⟨ado, capo, rfl, -⟩ := ownsRow_at OW
          by_cases hlt : j < i
          · obtain ⟨t, ht⟩ : ∃ t : Nat, (i : Int) - 1 - j = t := ⟨i - 1 - j, by omega⟩
            rw [ht]
            have hti : t < i := by omega
            have hti' : (t : Int) < (i : Int) := by omega
            obtain ⟨ad0, cap0, e0, hcap, hcells⟩ := hin.below hB2
            rw [hn] at e0 hcells
            simp only [Value.slice.injEq] at e0
            obtain ⟨rfl, -, rfl⟩ := e0
            obtain ⟨b, o, rfl, hcl⟩ := hcells (by omega)
            have hc := hcl t hti
            obtain ⟨c, hcc⟩ : ∃ c, ns.getD t 0 = c := ⟨_, rfl⟩
            rw [hcc] at hc
            have hrv : ns.reverse[j]? = some c := by
              rw [List.getElem?_reverse (by omega), hn, show i - 1 - j = t by omega, ← hcc, List.getD_eq_getElem?_getD, List.getElem?_eq_getElem (by omega)]
              rfl
            have l1 : ¬ 9223372036854775807 < Q.length + 19 := by omega
            have hwr2 : IntKind.i64.wrap ((t : Int) - 1) = (t : Int) - 1 := by rw [IntKind.wrap_i64]; omega
            have Y := Bx.new (w := wr) (c := #[Value.int .u8 (c.toNat : Int)]) (T := 5)
            have oc1 : ∀ u ∈ [Value.int .u8 (c.toNat : Int)], u.oneCell' = true := by intro u hu; simp only [List.mem_singleton] at hu; subst hu; rfl
            have hle := hB2.size
            obtain ⟨L, hL⟩ : ∃ L, (ns.reverse.take j).map (fun b => Value.int .u8 (b.toNat : Int)) = L := ⟨_, rfl⟩
            rw [hL] at OW
            replace hL := Lib.hid hL
            replace hrv := Lib.hid hrv
            clear hcells hcl hd2
            go_wp2_with (at_builtin; refine wpList_app1 rfl (.tmp 45) (.tmp 50) 23 rfl w.heap.size 5 _ 1 1 und23 info5 rfl (by decide) (.slice ado j capo) j _ rfl (OW.alloc _) wr.heap.size 1 [Value.int .u8 (c.toNat : Int)] rfl rfl (fun j hj => by rw [Y.cell]; simp) oc1 (by omega) (by decide) (by simp; omega) ?_)
            intro v' w' O' G'
            obtain ⟨adn, capn, rfl, -⟩ := ownsRow_at O'
            have B' := bgrown (balloc hB2 _) (OW.alloc _) (Nat.le_refl _) G'
            go_wp2_with fail
            go_roundg (gk - 1)
            case measure => omega
            case rel =>
              refine ⟨j + 1, Q ++ popText, ?_, by omega, by omega, ?_, Lib.hid ?_, ?_, ?_, by (repeat' (first | with_reducible assumption | with_reducible exact Below.refl _ _ | (with_reducible refine below_drewN ?_ _) | (with_reducible refine Below.drew ?_) | (with_reducible refine balloc ?_ _) | (with_reducible refine Below.setCell ?_ (by first | exact Nat.le_refl _ | (simp; done) | omega | (simp; omega)) _) | (with_reducible refine bstep ?_ (by with_reducible assumption))))⟩
              · congr 1; omega
              · exact congrArg Value.string (St_app Q popText)
              · rw [hQ2.out, List.append_assoc, List.replicate_succ', List.flatten_append]; simp
              · rw [List.length_append]; have : popText.length = 19 := rfl; omega
              · rw [List.take_add_one, hrv.out, Option.toList_some, List.map_append, hL.out]
                exact O'
          · obtain rfl : j = i := by omega
            have hneg : (j : Int) - 1 - j = -1 := by omega
            rw [hneg]
            have hT := stack_text ns
            have hQT : St Q ++ (⟨#[9, 114, 101, 116, 10]⟩ : ByteArray) = St (stackText ns) := by
              rw [hT, ← hQ.out, hn, ← hQ2.out]
              exact St_app Q ([9, 114, 101, 116, 10] : Str)
            have hTl : (stackText ns).length ≤ 2000 := by
              rw [hT, ← hQ.out, hn, ← hQ2.out, List.length_append]
              simp only [List.length_cons, List.length_nil]
              omega
            have hTs : (St (stackText ns)).size ≤ 1048575 := by rw [St_size]; omega
            have hRD := stack_read ns
            have HRd := fun w E F => Lib.hid (Read_any (St (stackText ns)) hTs w E F)
            simp only [bl_St, hRD] at HRd
            have ok := Lib.hid (read_code (s := stackText ns) (by omega) hRD)
            have OW2 : wr.ownsRow w.heap.size 5 1 (.slice ado j capo) ns.reverse.length (ns.reverse.map fun b => .int .u8 (b.toNat : Int)) := by
              rw [List.length_reverse, hn]
              rw [← hn, ← List.length_reverse, List.take_length] at OW
              rw [← hn, ← List.length_reverse]
              exact OW
            have hl1 : ¬ 9223372036854775807 < Q.length + 5 := by omega
            have HAw := fun w E F => Lib.hid (awake_any w E F)
            have E1 := E.below hB2
            have F1 := F.below hB2
            obtain ⟨m1, hr1, -, -, -, hleast⟩ := stack_fine ns 1048576 (by omega) (by omega) (by omega) (by omega)
            have hdv : wrap64 (16777216 - (16777208 - 8 * (ns.length : Int))) = 8 * (1 + (j : Int)) := by unfold wrap64; omega
            have HDp := fun w B p hC E => Lib.hid (Deepest_any w B p _ _ hC ok.out E none 0 [] (InAt.nil w) 1000 (by decide) (by decide))
            simp only [hr1, hleast, hdv] at HDp
            have hw8 : IntKind.i64.wrap (1 + (j : Int)) = 1 + (j : Int) := by rw [IntKind.wrap_i64]; omega
            have hw9 : IntKind.i64.wrap (8 * (1 + (j : Int))) = 8 * (1 + (j : Int)) := by rw [IntKind.wrap_i64]; omega
            clear OW hT hRD hQ hQ2 hTs hTl hd2 hr1 hleast hdv
            go_wp2_with fail
            refine ((HRd _ E1 F1).out).mono ?_
            rintro e w1 ⟨p, rfl, hC, b1⟩
            have B1 := bstep hB2 b1
            have OW3 := ownsRow_below OW2 b1
            have X3 := Bx.new (w := w1) (c := #[.int .i64 0, .int .i64 0]) (T := 38)
            have b3 := balloc (Below.refl _ w1) (.cells #[.int .i64 0, .int .i64 0] 38)
            have hx3 := X3.cell
            have C3 := hC.below b3
            have B3 := bstep B1 b3
            have OW4 := ownsRow_below OW3 b3
            have E3 := E.below B3
            clear E1 F1 OW2 OW3 b1 B1 b3 HRd hC
            go_wp2_with fail
            refine ((HDp _ _ _ C3 E3).out).mono ?_
            rintro e w4 ⟨rfl, b4⟩
            have B4 := bstep B3 b4
            have C4 := C3.below b4
            have OW5 := ownsRow_below OW4 b4
            have E4 := E3.below b4
            clear hx3 X3 C3 E3 OW4 HDp b4 B3
            obtain ⟨sN, hsN⟩ : ∃ sN : Nat, 8 * (2 + 2 * k) = sN := ⟨_, rfl⟩
            have hsI : 8 * (2 + 2 * (k : Int)) = (sN : Int) := by omega
            have hw10 : IntKind.i64.wrap (sN : Int) = (sN : Int) := by rw [IntKind.wrap_i64]; omega
            have hw11 : IntKind.i64.wrap ((j : Int) + 1) = (j : Int) + 1 := by rw [IntKind.wrap_i64]; omega
            have HRn := fun w B p hC E => Lib.hid (Run_any w B p _ _ hC ok.out E none 0 [] (InAt.nil w) 1000 sN (by decide) (by decide) (by omega) (by omega) (by omega))
            by_cases hov : 2 + 2 * k < j + 1
            · have hov' : 2 + 2 * (k : Int) < (j : Int) + 1 := by omega
              obtain ⟨m, hm, hmk, hmo⟩ := stack_over ns (2 + 2 * k) (by omega) (by omega) (by omega)
              rw [hsN] at hm
              simp only [hm, hmk, hmo] at HRn
              clear hm hmk hmo hsN
              go_wp2_with fail
              refine ((HRn _ _ _ C4 E4).out).mono ?_
              rintro e w5 ⟨v5, rfl, O5, b5⟩
              obtain ⟨ad5, cap5, rfl, -⟩ := ownsRow_at O5
              have B5 := bstep B4 b5
              obtain ⟨oc, hoc⟩ : ∃ c : Array Value, #[.int .i64 5, .int .i64 m.code, .slice ad5 ([] : List UInt8).length cap5] = c := ⟨_, rfl⟩
              have X6 := Bx.new (w := w5) (c := oc) (T := 43)
              have b6 := balloc (Below.refl _ w5) (.cells oc 43)
              have B6 := bstep B5 b6
              have E6 := E.below B6
              have F6 := F.below B6
              have hx6 := X6.cell
              rw [← hoc] at hx6 B6 E6 F6
              simp only [List.length_nil] at hx6 B6 E6 F6
              clear X6 b6 hoc C4 E4 OW5 O5 b5 B4 B5 HRn
              go_wp2_with fail
              refine ((HAw _ E6 F6).out).mono ?_
              rintro e w7 ⟨rfl, b7⟩
              go_wp2_with fail
              go_ret
              exact ⟨rfl, bstep B6 b7⟩
            · have hov' : ¬ 2 + 2 * (k : Int) < (j : Int) + 1 := by omega
              obtain ⟨m, hm, hmk, hmc, hmo, -⟩ := stack_fine ns sN (by omega) (by omega) (by omega) (by omega)
              obtain ⟨wt, hwt⟩ : ∃ l, ns.reverse = l := ⟨_, rfl⟩
              rw [hwt] at OW5 hmo
              have hwl : wt.length ≤ 1099511627776 := by rw [← hwt, List.length_reverse]; omega
              have hwj : wt.length = j := by rw [← hwt, List.length_reverse]; exact hn
              simp only [hm, hmk, hmc, hmo] at HRn
              have HSm := fun w va vb ha hb => Lib.hid (SameOutcome_any w 1 0 1 0 va vb wt wt ha hb hwl hwl)
              replace hwj := Lib.hid hwj
              clear hm hmk hmc hmo hsN hwt hwl
              go_wp2_with fail
              refine ((HRn _ _ _ C4 E4).out).mono ?_
              rintro e w5 ⟨v5, rfl, O5, b5⟩
              obtain ⟨ad5, cap5, rfl, -⟩ := ownsRow_at O5
              have B5 := bstep B4 b5
              obtain ⟨oc, hoc⟩ : ∃ c : Array Value, #[.int .i64 1, .int .i64 0, .slice ad5 wt.length cap5] = c := ⟨_, rfl⟩
              have X6 := Bx.new (w := w5) (c := oc) (T := 43)
              have b6 := balloc (Below.refl _ w5) (.cells oc 43)
              have B6 := bstep B5 b6
              have hx6 := X6.cell
              have I4 := InAt.of_row (ownsRow_below O5 b6)
              have I5 := InAt.of_row (ownsRow_below OW5 (b5.trans (b6.mono b5.size)))
              rw [← hoc] at hx6 B6 I4 I5
              clear X6 b6 hoc C4 E4 OW5 O5 b5 B4 B5 HRn
              go_wp2_with fail
              refine ((HSm _ _ _ I4 I5).out).mono ?_
              rintro e w7 ⟨rfl, b7⟩
              have B7 := bstep B6 b7
              have E7 := E.below B7
              have F7 := F.below B7
              clear I4 I5 B6 b7 HSm
              go_wp2_with fail
              refine ((HAw _ E7 F7).out).mono ?_
              rintro e w8 ⟨rfl, b8⟩
              go_wp2_with fail
              go_ret
              exact ⟨rfl, bstep B7 b8⟩
end Go.Proofs.YtfkfdffhajokkaaGreatDoor
