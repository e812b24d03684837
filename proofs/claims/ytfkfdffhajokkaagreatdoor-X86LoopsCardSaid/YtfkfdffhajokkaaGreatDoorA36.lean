/- What the small functions answer that the statements share: Low, SameBytes, SameOutcome, Digits, decimal, Conds; conditions: none beyond each theorem's own. -/
import Derived.Test.YtfkfdffhajokkaaGreatDoorA35
import Derived.Test.YtfkfdffhajokkaaGreatDoorA02
import Derived.Deep.LoopGhost
namespace Go.Proofs.YtfkfdffhajokkaaGreatDoor
open Go.RowKit X Pl
set_option linter.unusedSimpArgs false
/-- A number from 0 to below n. -/
def low (x n : Int) : Int := x % 18446744073709551616 % n
theorem low_range (x n : Int) (h : 1 ≤ n) : 0 ≤ low x n ∧ low x n < n := by
  unfold low
  exact ⟨Int.emod_nonneg _ (by omega), Int.emod_lt_of_pos _ (by omega)⟩
theorem Low_any (x n : Int) (h1 : 1 ≤ n) (h2 : n ≤ 1099511627776) (w : World) : Calls Tryz.prog 10 #[.int .i64 x, .int .i64 n] w fun e w' => e = .returned (.int .i64 (low x n)) ∧ w' = w := by
  have e1 : IntKind.u64.wrap x = x % 18446744073709551616 := u64_eq x
  have e2 : IntKind.u64.wrap n = n := by have : IntKind.u64.wrap n = n % 18446744073709551616 := u64_eq n; omega
  have hr := low_range x n h1
  have hx0 : 0 ≤ x % 18446744073709551616 := Int.emod_nonneg _ (by decide)
  have e3 : (x % 18446744073709551616).tmod n = low x n := Int.tmod_eq_emod_of_nonneg hx0
  have e4 : IntKind.i64.wrap (low x n) = low x n := by rw [IntKind.wrap_i64]; omega
  have e5 : IntKind.u64.wrap (low x n) = low x n := by have : IntKind.u64.wrap (low x n) = low x n % 18446744073709551616 := u64_eq _; omega
  have hn0 : ¬ n = 0 := by omega
  go_enter Tryz.func10, Tryz.ntmps10
  go_wp2
  go_ret
  exact ⟨rfl, rfl⟩
theorem InAt.of_row {w : World} {base : Nat} {v : Value} {l : List UInt8} (h : w.ownsRow base 5 1 v l.length (l.map fun b => .int .u8 (b.toNat : Int))) : InAt w v l := by
  obtain ⟨h1, h2⟩ := h
  rcases h2 with ⟨rfl, h2⟩ | ⟨g, cp, cur, rfl, -, hh, hc, -, hs, hcur⟩
  · exact ⟨none, 0, by rw [h2], by omega, fun h => by omega⟩
  · refine ⟨_, cp, rfl, hc, fun hl => ⟨g, 0, rfl, fun i hi => ?_⟩⟩
    have e : cur[i]? = (l.map fun b => Value.int .u8 (b.toNat : Int))[i]? := by
      rw [← hcur, List.getElem?_take_of_lt (by omega), Array.getElem?_toList]
    have hb : Bx w g cur 5 := hh
    rw [Nat.zero_add, hb.cell, e, List.getElem?_map, List.getElem?_eq_getElem hi, List.getD_eq_getElem?_getD, List.getElem?_eq_getElem hi]
    rfl
theorem sameBytes_drop {la lb : List UInt8} (h : la.length = lb.length) {k : Nat} (hk : k < la.length) : (la.drop k == lb.drop k) = (la.getD k 0 == lb.getD k 0 && la.drop (k + 1) == lb.drop (k + 1)) := by
  rw [List.drop_eq_getElem_cons hk, List.drop_eq_getElem_cons (show k < lb.length by omega)]
  simp only [List.cons_beq_cons]
  congr 2
  · rw [List.getD_eq_getElem?_getD, List.getElem?_eq_getElem hk]; rfl
  · rw [List.getD_eq_getElem?_getD, List.getElem?_eq_getElem (show k < lb.length by omega)]; rfl
set_option maxRecDepth 100000 in
theorem SameBytes_any (w : World) (va vb : Value) (la lb : List UInt8) (ha : InAt w va la) (hb : InAt w vb lb) (hla : la.length ≤ 1099511627776) (hlb : lb.length ≤ 1099511627776) :
    Calls Tryz.prog 29 #[va, vb] w fun e w' => e = .returned (.bool (la == lb)) ∧ Below w.heap.size w w' := by
  obtain ⟨ada, capa, rfl, hca, hga⟩ := ha
  obtain ⟨adb, capb, rfl, hcb, hgb⟩ := hb
  obtain ⟨R, hR⟩ : ∃ R, (la == lb) = R := ⟨_, rfl⟩
  rw [hR]
  by_cases hl : la.length = lb.length
  · have t1 : ((la.length : Int) == (lb.length : Int)) = true := beq_iff_eq.2 (by omega)
    have t1' : ((la.length : Int) != (lb.length : Int)) = false := by unfold bne; rw [t1]; rfl
    have hR := Lib.hid (show (la.drop 0 == lb.drop 0) = R from hR)
    have hll := Lib.hid hl
    clear hl
    go_enter Tryz.func29, Tryz.ntmps29
    go_wp2_with fail
    go_loopg [5] (la.length + 1) (fun q v wr => ∃ k : Nat, v = .int .i64 k ∧ k ≤ la.length ∧ q + k = la.length + 1 ∧ Below w.heap.size w wr ∧ Hid ((la.drop k == lb.drop k) = R))
    case atStart => exact ⟨0, rfl, by omega, rfl, Below.refl _ _, hR⟩
    case round =>
      obtain ⟨k, rfl, hk, hq, hB, hg⟩ := hrel
      clear hR
      by_cases hlt : k < la.length
      · have hlt2 : k < lb.length := by have := hll.out; omega
        obtain ⟨ba, oa, rfl, hxa⟩ := hga (by omega)
        obtain ⟨bb, ob, rfl, hxb⟩ := hgb (by omega)
        have c1 := cell_below hB (hxa k hlt)
        have c2 := cell_below hB (hxb k hlt2)
        have hd := sameBytes_drop hll.out hlt
        rw [hg.out] at hd
        obtain ⟨xa, hxa2⟩ : ∃ x, la.getD k 0 = x := ⟨_, rfl⟩
        obtain ⟨xb, hxb2⟩ : ∃ x, lb.getD k 0 = x := ⟨_, rfl⟩
        rw [hxa2] at c1 hd
        rw [hxb2] at c2 hd
        have hlt3 : (k : Int) < (lb.length : Int) := by omega
        clear hxa hxb hg hxa2 hxb2
        by_cases he : xa = xb
        · subst he
          have e1 : ((xa.toNat : Int) != (xa.toNat : Int)) = false := by unfold bne; simp
          have hd := Lib.hid (show (la.drop (k + 1) == lb.drop (k + 1)) = R by rw [hd]; simp)
          go_wp2_with fail
          go_quiet (fail)
          go_wp2_with fail
          go_roundg (gk - 1)
          case measure => omega
          case rel => exact ⟨k + 1, rfl, by omega, by omega, by (repeat' (first | with_reducible assumption | with_reducible exact Below.refl _ _ | (with_reducible refine below_drewN ?_ _) | (with_reducible refine Below.drew ?_) | (with_reducible refine balloc ?_ _) | (with_reducible refine Below.setCell ?_ (by first | exact Nat.le_refl _ | (simp; done) | omega | (simp; omega)) _) | (with_reducible refine bstep ?_ (by with_reducible assumption)))), hd⟩
        · have e0 : (xa.toNat : Int) ≠ (xb.toNat : Int) := fun e => he (UInt8.toNat_inj.1 (by omega))
          have e1 : ((xa.toNat : Int) != (xb.toNat : Int)) = true := bne_iff_ne.2 e0
          have hd := Lib.hid (show false = R by rw [hd]; simp [he])
          clear e0 he
          go_wp2_with fail
          go_quiet (fail)
          go_wp2_with fail
          go_ret
          exact ⟨by rw [← hd.out]; rfl, by (repeat' (first | with_reducible assumption | with_reducible exact Below.refl _ _ | (with_reducible refine below_drewN ?_ _) | (with_reducible refine Below.drew ?_) | (with_reducible refine balloc ?_ _) | (with_reducible refine Below.setCell ?_ (by first | exact Nat.le_refl _ | (simp; done) | omega | (simp; omega)) _) | (with_reducible refine bstep ?_ (by with_reducible assumption))))⟩
      · obtain rfl : k = la.length := by omega
        have hd := Lib.hid (show true = R by rw [← hg.out, List.drop_length, hll.out, List.drop_length]; rfl)
        clear hg
        go_wp2_with fail
        go_ret
        exact ⟨by rw [← hd.out]; rfl, hB⟩
  · have t1 : ((la.length : Int) == (lb.length : Int)) = false := beq_f (by omega)
    have t1' : ((la.length : Int) != (lb.length : Int)) = true := by unfold bne; rw [t1]; rfl
    have hR := Lib.hid (show false = R by
      rw [← hR]
      symm
      rw [beq_eq_false_iff_ne]
      rintro rfl
      exact hl rfl)
    clear hl
    go_enter Tryz.func29, Tryz.ntmps29
    go_wp2_with fail
    go_ret
    exact ⟨by rw [← hR.out]; rfl, Below.refl _ _⟩
set_option maxRecDepth 100000 in
theorem SameOutcome_any (w : World) (k1 c1 k2 c2 : Int) (va vb : Value) (la lb : List UInt8) (ha : InAt w va la) (hb : InAt w vb lb) (hla : la.length ≤ 1099511627776) (hlb : lb.length ≤ 1099511627776) :
    Calls Tryz.prog 14 #[.agg #[.int .i64 k1, .int .i64 c1, va], .agg #[.int .i64 k2, .int .i64 c2, vb]] w fun e w' => e = .returned (.bool (k1 == k2 && c1 == c2 && la == lb)) ∧ Below w.heap.size w w' := by
  have HS := fun w ha hb => Lib.hid (SameBytes_any w va vb la lb ha hb hla hlb)
  obtain ⟨ada, capa, rfl, hca, hga⟩ := ha
  obtain ⟨adb, capb, rfl, hcb, hgb⟩ := hb
  obtain ⟨x, hx⟩ : ∃ x, (la == lb) = x := ⟨_, rfl⟩
  rw [hx]
  simp only [hx] at HS
  clear hx
  have B2 := balloc (balloc (Below.refl w.heap.size w) (.cells #[.int .i64 k1, .int .i64 c1, .slice ada la.length capa] 43)) (.cells #[.int .i64 k2, .int .i64 c2, .slice adb lb.length capb] 43)
  have IA : InAt w (.slice ada la.length capa) la := ⟨ada, capa, rfl, hca, hga⟩
  have IB : InAt w (.slice adb lb.length capb) lb := ⟨adb, capb, rfl, hcb, hgb⟩
  have HS2 := HS _ (IA.below B2) (IB.below B2)
  clear HS IA IB hga hgb hla hlb
  cases e1 : (k1 == k2) with
  | false =>
    go_enter Tryz.func14, Tryz.ntmps14
    go_wp2_with fail
    go_ret
    exact ⟨rfl, B2⟩
  | true =>
    cases e2 : (c1 == c2) with
    | false =>
      go_enter Tryz.func14, Tryz.ntmps14
      go_wp2_with fail
      go_ret
      exact ⟨rfl, B2⟩
    | true =>
      go_enter Tryz.func14, Tryz.ntmps14
      go_wp2_with fail
      refine (HS2.out).mono ?_
      rintro e w3 ⟨rfl, hb3⟩
      go_wp2_with fail
      go_ret
      exact ⟨rfl, bstep B2 hb3⟩
set_option maxRecDepth 100000 in
theorem Conds_any (w : World) : Calls Tryz.prog 12 #[] w fun e w' => e = .returned (.slice (some ⟨w.heap.size, 0, none⟩) 10 10) ∧ w' = w.alloc (.cells (strCells conds) 9) := by
  go_enter Tryz.func12, Tryz.ntmps12
  go_wp2_with fail
  go_ret
  exact ⟨rfl, rfl⟩
theorem und5 : Tryz.prog.underlying 5 = some (.int .u8) := by kernel_rfl
/-- What is left of a number's digits to be told. -/
def restDigits (n : Nat) (s : Str) : Str := if s = [] then Lib.decDigits n else if n = 0 then s else Lib.decDigits n ++ s
theorem restDigits_step (n : Nat) (s : Str) (h : n ≠ 0 ∨ s = []) : restDigits n s = restDigits (n / 10) (UInt8.ofNat (48 + n % 10) :: s) := by
  unfold restDigits
  rw [if_neg (show ¬ (UInt8.ofNat (48 + n % 10) :: s) = [] by simp)]
  have e : Lib.decDigits n = if n < 10 then [UInt8.ofNat (48 + n)] else Lib.decDigits (n / 10) ++ [UInt8.ofNat (48 + n % 10)] := by
    rw [Lib.decDigits]
    split <;> rfl
  by_cases hs : s = []
  · subst hs
    rw [if_pos rfl, e]
    by_cases hn : n < 10
    · rw [if_pos hn, if_pos (by omega), Nat.mod_eq_of_lt hn]
    · rw [if_neg hn, if_neg (by omega)]
  · rw [if_neg hs, if_neg (by rcases h with h | h; exact h; exact absurd h hs), e]
    by_cases hn : n < 10
    · rw [if_pos hn, if_pos (by omega), Nat.mod_eq_of_lt hn]; rfl
    · rw [if_neg hn, if_neg (by omega), List.append_assoc]; rfl
theorem decDigits_le : ∀ (k u : Nat), u < 10 ^ (k + 1) → (Lib.decDigits u).length ≤ k + 1
  | 0, u, h => by rw [Lib.decDigits, dif_pos (by simpa using h)]; simp
  | k + 1, u, h => by
    rw [Lib.decDigits]
    split
    · simp
    · rw [Nat.pow_succ] at h
      have := decDigits_le k (u / 10) (by omega)
      rw [List.length_append, List.length_singleton]
      omega
theorem restDigits_len (n : Nat) (s : Str) (h : n ≠ 0 ∨ s = []) : s.length + 1 ≤ (restDigits n s).length := by
  have hp : 1 ≤ (Lib.decDigits n).length := by rw [Lib.decDigits_length]; exact Lib.nDigits_pos n
  unfold restDigits
  split
  · rename_i e; subst e; exact hp
  · rename_i e
    rw [if_neg (by rcases h with h | h; exact h; exact absurd h e), List.length_append]
    omega
theorem restDigits_end (s : Str) (h : s ≠ []) : restDigits 0 s = s := by unfold restDigits; rw [if_neg h, if_pos rfl]
theorem St_one (b : UInt8) (s : Str) : ({ data := #[b] } : ByteArray) ++ St s = St (b :: s) := by
  have : (({ data := #[b] } : ByteArray) ++ St s).data = (St (b :: s)).data := by
    rw [ByteArray.data_append]
    simp
  generalize ({ data := #[b] } : ByteArray) ++ St s = x at *
  generalize St (b :: s) = y at *
  obtain ⟨x⟩ := x
  obtain ⟨y⟩ := y
  rw [ByteArray.mk.injEq]
  exact this
set_option maxRecDepth 100000 in
theorem Digits_any (n : Nat) (hn : n < 18446744073709551616) (w : World) :
    Calls Tryz.prog 22 #[.int .u64 n] w fun e w' => e = .returned (.string (St (Lib.decDigits n))) ∧ Below w.heap.size w w' := by
  obtain ⟨R, hR⟩ : ∃ R, Lib.decDigits n = R := ⟨_, rfl⟩
  rw [hR]
  have hRl : R.length ≤ 20 := by rw [← hR]; exact decDigits_le 19 n (by omega)
  have hR := Lib.hid (show restDigits n [] = R by rw [← hR]; rfl)
  go_enter Tryz.func22, Tryz.ntmps22
  go_wp2_with fail
  go_loopg [0, 3] (2 * n + 2) (fun q v0 v3 wr => ∃ (k : Nat) (s : Str), v0 = .int .u64 k ∧ v3 = .string (St s) ∧ k < 18446744073709551616 ∧ s.length ≤ 1000 ∧ q = 2 * k + (if s = [] then 1 else 0) + 1 ∧ Below w.heap.size w wr ∧ Hid (restDigits k s = R))
  case atStart => exact ⟨n, [], rfl, rfl, hn, by simp, rfl, Below.refl _ _, hR⟩
  case round =>
    obtain ⟨k, s, rfl, rfl, hk, hsl, hq, hB, hg⟩ := hrel
    clear hR
    by_cases hend : k = 0 ∧ s ≠ []
    · obtain ⟨hk0, hs⟩ := hend
      have g0 : decide ((0 : Int) < (k : Int)) = false := decide_eq_false (by omega)
      have g1 : decide (0 < k) = false := decide_eq_false (by omega)
      have he2 : s.isEmpty = false := by cases s with
        | nil => exact absurd rfl hs
        | cons c t => rfl
      have he : (St s).toList.isEmpty = false := by rw [ByteArray.toList_eq]; cases s with
        | nil => exact absurd rfl hs
        | cons c t => rfl
      have hd := Lib.hid (show s = R by rw [← hg.out, hk0, restDigits_end s hs])
      clear hg hs hq hk0
      go_wp2_with fail
      go_ret
      exact ⟨by rw [← hd.out]; rfl, hB⟩
    · have hor : k ≠ 0 ∨ s = [] := by
        by_cases h : k = 0
        · exact .inr (Decidable.byContradiction fun h2 => hend ⟨h, h2⟩)
        · exact .inl h
      have hd := restDigits_step k s hor
      have hsl2 := restDigits_len k s hor
      rw [hg.out] at hd hsl2
      obtain ⟨d, hdd⟩ : ∃ d, UInt8.ofNat (48 + k % 10) = d := ⟨_, rfl⟩
      rw [hdd] at hd
      have hd := Lib.hid hd.symm
      have hdn : (d.toNat : Int) = 48 + ((k % 10 : Nat) : Int) := by rw [← hdd, digit_toNat (by omega)]; omega
      have m1 : ((k : Int).tmod 10) = ((k % 10 : Nat) : Int) := by rw [Int.tmod_eq_emod_of_nonneg (by omega)]; omega
      have m2 : IntKind.u64.wrap (48 + ((k % 10 : Nat) : Int)) = 48 + ((k % 10 : Nat) : Int) := by have : IntKind.u64.wrap (48 + ((k % 10 : Nat) : Int)) = (48 + ((k % 10 : Nat) : Int)) % 18446744073709551616 := u64_eq _; omega
      have m3 : IntKind.u8.wrap (48 + ((k % 10 : Nat) : Int)) = (d.toNat : Int) := by
        rw [hdn]
        unfold IntKind.wrap
        simp [IntKind.signed, IntKind.bits]
        omega
      have m4 : ((k : Int).tdiv 10) = ((k / 10 : Nat) : Int) := by rw [Int.tdiv_eq_ediv_of_nonneg (by omega)]; omega
      have hdn2 : 48 + (k : Int) % 10 = (d.toNat : Int) := by omega
      have hconv := run_convert_bytes_back (P := Tryz.prog) (wr.alloc (.cells #[.int .u8 (48 + (k : Int) % 10)] 5)) 23 9 5 ⟨wr.heap.size, 0, none⟩ 1 [d] und23 und5 und9 (fun j hj => by
        obtain rfl : j = 0 := by simp at hj; omega
        have := (Bx.new (w := wr) (c := #[.int .u8 (48 + (k : Int) % 10)]) (T := 5)).cell 0
        rw [hdn2] at this ⊢
        exact this)
      rw [List.length_singleton] at hconv
      have hcat := St_one d s
      have hsl3 : 1 + s.length ≤ 9223372036854775807 := by omega
      clear hg hdd hdn hdn2 hend m1 m2 m3 m4
      by_cases hk0 : k = 0
      · have g0 : decide ((0 : Int) < (k : Int)) = false := decide_eq_false (by omega)
        have hs0 : s = [] := by rcases hor with h | h; exact absurd hk0 h; exact h
        have he : (St s).toList.isEmpty = true := by rw [ByteArray.toList_eq, hs0]; rfl
        have he2 : s.isEmpty = true := by rw [hs0]; rfl
        have g1 : decide (0 < k) = false := decide_eq_false (by omega)
        have hk0' := Lib.hid hk0
        rw [if_pos hs0] at hq
        clear hor hs0 hk0
        go_wp2_with fail
        go_roundg (gk - 1)
        case measure => have := hk0'.out; omega
        case rel => have := hk0'.out; exact ⟨k / 10, d :: s, rfl, rfl, by omega, by rw [List.length_cons]; omega, by rw [if_neg (by simp)]; omega, by (repeat' (first | with_reducible assumption | with_reducible exact Below.refl _ _ | (with_reducible refine below_drewN ?_ _) | (with_reducible refine Below.drew ?_) | (with_reducible refine balloc ?_ _) | (with_reducible refine Below.setCell ?_ (by first | exact Nat.le_refl _ | (simp; done) | omega | (simp; omega)) _) | (with_reducible refine bstep ?_ (by with_reducible assumption)))), hd⟩
      · have g0 : decide ((0 : Int) < (k : Int)) = true := decide_eq_true (by omega)
        have g1 : decide (0 < k) = true := decide_eq_true (by omega)
        have hk0' := Lib.hid hk0
        clear hor hk0
        go_wp2_with fail
        go_roundg (2 * (k / 10) + 1)
        case measure => have := hk0'.out; split at hq <;> omega
        case rel => exact ⟨k / 10, d :: s, rfl, rfl, by omega, by rw [List.length_cons]; omega, by rw [if_neg (by simp)], by (repeat' (first | with_reducible assumption | with_reducible exact Below.refl _ _ | (with_reducible refine below_drewN ?_ _) | (with_reducible refine Below.drew ?_) | (with_reducible refine balloc ?_ _) | (with_reducible refine Below.setCell ?_ (by first | exact Nat.le_refl _ | (simp; done) | omega | (simp; omega)) _) | (with_reducible refine bstep ?_ (by with_reducible assumption)))), hd⟩
theorem St_minus (s : Str) : ({ data := #[45] } : ByteArray) ++ St s = St (45 :: s) := St_one 45 s
set_option maxRecDepth 100000 in
theorem decimal_any (n : Int) (hn : In64 n) (w : World) :
    Calls Tryz.prog 11 #[.int .i64 n] w fun e w' => e = .returned (.string (St (Lib.itoa n))) ∧ Below w.heap.size w w' := by
  unfold In64 at hn
  by_cases h0 : n < 0
  · obtain ⟨u, hu⟩ : ∃ u : Nat, -n = u := ⟨(-n).toNat, by omega⟩
    have H := fun w => Lib.hid (Digits_any u (by omega) w)
    have e0 : decide (n < 0) = true := decide_eq_true h0
    have e1 : IntKind.u64.wrap n = n + 18446744073709551616 := by have : IntKind.u64.wrap n = n % 18446744073709551616 := u64_eq _; omega
    have e2 : IntKind.u64.wrap (-(n + 18446744073709551616)) = (u : Int) := by have : IntKind.u64.wrap (-(n + 18446744073709551616)) = (-(n + 18446744073709551616)) % 18446744073709551616 := u64_eq _; omega
    have hi : Lib.itoa n = 45 :: Lib.decDigits u := by rw [show n = -(u : Int) by omega]; exact Lib.itoa_neg u (by omega)
    have hl : (Lib.decDigits u).length ≤ 20 := decDigits_le 19 u (by omega)
    rw [hi]
    obtain ⟨D, hD⟩ : ∃ D, Lib.decDigits u = D := ⟨_, rfl⟩
    rw [hD] at hl ⊢
    simp only [hD] at H
    have hcat := St_minus D
    have hl2 : 1 + D.length ≤ 9223372036854775807 := by omega
    clear hi hD hu h0 hn
    go_enter Tryz.func11, Tryz.ntmps11
    go_wp2_with fail
    refine ((H _).out).mono ?_
    rintro e w1 ⟨rfl, hb⟩
    go_wp2_with fail
    go_ret
    exact ⟨rfl, hb⟩
  · obtain ⟨u, rfl⟩ : ∃ u : Nat, n = u := ⟨n.toNat, by omega⟩
    have H := fun w => Lib.hid (Digits_any u (by omega) w)
    have e0 : decide ((u : Int) < 0) = false := decide_eq_false h0
    have e1 : IntKind.u64.wrap (u : Int) = (u : Int) := by have : IntKind.u64.wrap (u : Int) = (u : Int) % 18446744073709551616 := u64_eq _; omega
    rw [Lib.itoa_nonneg]
    clear h0 hn
    go_enter Tryz.func11, Tryz.ntmps11
    go_wp2_with fail
    refine ((H _).out).mono ?_
    rintro e w1 ⟨rfl, hb⟩
    go_wp2_with fail
    go_ret
    exact ⟨rfl, hb⟩
end Go.Proofs.YtfkfdffhajokkaaGreatDoor
/- What 'awake' answers; conditions: the library's variables and the table of forms as they begin. -/
namespace Go.Proofs.YtfkfdffhajokkaaGreatDoor
open Go.RowKit X Pl
set_option linter.unusedSimpArgs false
theorem InAt.nil (w : World) : InAt w (.slice none 0 0) [] := ⟨none, 0, rfl, Nat.le_refl _, fun h => absurd h (by simp)⟩
theorem awake_code : CodeOk awakeText awakeCode := read_code (by decide) awake_read
theorem OcRet.inAt {w w' : World} {v : Value} {l : List UInt8} (h : w'.ownsRow w.heap.size 5 1 v l.length (l.map fun b => .int .u8 (b.toNat : Int))) : InAt w' v l := InAt.of_row h
set_option maxHeartbeats 4000000 in
set_option maxRecDepth 100000 in
theorem awake_any (w : World) (E : Env w) (F : FormsAt w) : Calls Tryz.prog 7 #[] w fun e w' => e = .returned (.bool true) ∧ Below w.heap.size w w' := by
  have R1 := fun w E F => Lib.hid (Read_any (⟨#[109, 97, 105, 110, 58, 10, 9, 109, 111, 118, 113, 9, 36, 51, 48, 48, 44, 32, 37, 114, 97, 120, 10, 9, 114, 101, 116, 10]⟩ : ByteArray) (by decide) w E F)
  have R2 := fun w E F => Lib.hid (Read_any (⟨#[109, 97, 105, 110, 58, 10, 9, 109, 111, 118, 113, 9, 51, 48, 48, 44, 32, 37, 114, 97, 120, 10]⟩ : ByteArray) (by decide) w E F)
  have e1 : X.read (bl (⟨#[109, 97, 105, 110, 58, 10, 9, 109, 111, 118, 113, 9, 36, 51, 48, 48, 44, 32, 37, 114, 97, 120, 10, 9, 114, 101, 116, 10]⟩ : ByteArray)) = .ok awakeCode := awake_read
  have e2 : X.read (bl (⟨#[109, 97, 105, 110, 58, 10, 9, 109, 111, 118, 113, 9, 51, 48, 48, 44, 32, 37, 114, 97, 120, 10]⟩ : ByteArray)) = .error (12, 6) := wrong_read
  simp only [e1] at R1
  simp only [e2] at R2
  have HP := fun w B p h => Lib.hid (Print_any w B p awakeCode h)
  have HL := fun w B p h => Lib.hid (Len_any w B p awakeCode h)
  obtain ⟨m1, r1, k1, c1, o1, -⟩ := awake_run 64 (by decide) (by decide)
  have HR := fun w B p hC E => Lib.hid (Run_any w B p awakeText awakeCode hC awake_code E none 0 [] (InAt.nil w) 10 64 (by decide) (by decide) (by decide) (by decide) (by decide))
  simp only [r1, k1, c1, o1] at HR
  obtain ⟨m2, r2, -, -, -, l2⟩ := awake_run 1048576 (by decide) (by decide)
  have HD := fun w B p hC E => Lib.hid (Deepest_any w B p awakeText awakeCode hC awake_code E none 0 [] (InAt.nil w) 10 (by decide) (by decide))
  simp only [r2, l2] at HD
  have HS := fun w va ha => Lib.hid (SameOutcome_any w 1 44 1 44 va (.slice none 0 0) [] [] ha (InAt.nil w) (by decide) (by decide))
  have hst : St awakeCode.text = (⟨#[109, 97, 105, 110, 58, 10, 9, 109, 111, 118, 113, 9, 36, 51, 48, 48, 44, 32, 37, 114, 97, 120, 10, 9, 114, 101, 116, 10]⟩ : ByteArray) := rfl
  simp only [hst] at HP
  have hlen : (awakeCode.lines.length : Int) = 2 := rfl
  simp only [hlen] at HL
  have hdp : wrap64 (16777216 - 16777208) = 8 := by unfold wrap64; omega
  simp only [hdp] at HD
  clear e1 e2 hst hlen hdp r1 r2 k1 c1 o1 l2
  go_enter Tryz.func7, Tryz.ntmps7
  go_wp2_with fail
  refine ((R1 _ E F).out).mono ?_
  rintro e w1 ⟨p, rfl, hC, B1⟩
  go_wp2_with fail
  have X3 := Bx.new (w := w1) (c := #[.int .i64 0, .int .i64 0]) (T := 38)
  have B3 := balloc B1 (.cells #[.int .i64 0, .int .i64 0] 38)
  refine ((R2 _ (E.below B3) (F.below B3)).out).mono ?_
  rintro e w2 ⟨rfl, hb2⟩
  have B2 := bstep B3 hb2
  have X32 := X3.below hb2
  have hx3 := (X32.alloc (o := .cells #[.int .i64 12, .int .i64 6] 38)).cell
  have hx5 := (Bx.new (w := w2) (c := #[.int .i64 12, .int .i64 6]) (T := 38)).cell
  have B5 := balloc B2 (.cells #[.int .i64 12, .int .i64 6] 38)
  have C2 := (hC.below (bstep (balloc (Below.refl _ w1) _) hb2)).below (balloc (Below.refl _ w2) (.cells #[.int .i64 12, .int .i64 6] 38))
  have E5 := E.below B5
  clear X3 X32 B3 B2 B1 hb2 R1 R2 E F hC
  go_wp2_with fail
  refine ((HP _ _ _ C2).out).mono ?_
  rintro e w3 ⟨rfl, b3⟩
  have C3 := C2.below b3
  have B6 := bstep B5 b3
  have E6 := E5.below b3
  clear hx3 hx5 C2 B5 E5 b3 HP
  go_wp2_with fail
  refine ((HL _ _ _ C3).out).mono ?_
  rintro e w4 ⟨rfl, b4⟩
  have C4 := C3.below b4
  have B7 := bstep B6 b4
  have E7 := E6.below b4
  clear C3 B6 E6 b4 HL
  go_wp2_with fail
  refine ((HR _ _ _ C4 E7).out).mono ?_
  rintro e w5 ⟨vo, rfl, hvo, b5⟩
  have I5 := InAt.of_row hvo
  have C5 := C4.below b5
  have B8 := bstep B7 b5
  have E8 := E7.below b5
  clear C4 B7 E7 b5 HR
  obtain ⟨ado, capo, rfl, -⟩ := ownsRow_at hvo
  clear hvo
  go_wp2_with fail
  refine ((HS _ _ I5).out).mono ?_
  rintro e w6 ⟨rfl, b6⟩
  have C6 := C5.below b6
  have B9 := bstep B8 b6
  have E9 := E8.below b6
  clear C5 B8 E8 b6 HS I5
  go_wp2_with fail
  refine ((HD _ _ _ C6 E9).out).mono ?_
  rintro e w7 ⟨rfl, b7⟩
  go_wp2_with fail
  go_ret
  exact ⟨rfl, bstep B9 b7⟩
end Go.Proofs.YtfkfdffhajokkaaGreatDoor
