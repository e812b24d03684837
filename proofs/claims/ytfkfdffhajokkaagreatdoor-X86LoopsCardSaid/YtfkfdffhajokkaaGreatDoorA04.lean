/- What the functions of the program's package word answer where package x86 calls them; conditions: a width that may be, numbers of 64 bits. -/
import Derived.WalkKit
import Derived.WalkLawsBesides
import Derived.WalkSpells
import Derived.WalkSmall
import Derived.BigQuiet
import Derived.Deep.QuietTactic
import Derived.RegionCalls
import Derived.StillTailTactics
import Derived.Deep.RegionWith
import Derived.Lib.Hide
import Derived.Test.YtfkfdffhajokkaaGreatDoorProg
import Derived.Test.YtfkfdffhajokkaaGreatDoorA01
namespace Go.Proofs.YtfkfdffhajokkaaGreatDoor
open Go.RowKit X
abbrev Wd (b : Int) (s : Bool) : Value := .agg #[.int .i64 b, .bool s]
def mayB (b : Int) : Bool := b == 8 || b == 16 || b == 32 || b == 64
theorem bcell {W w1 : World} (hb : Below W.heap.size W w1) : (∀ b o, b < W.heap.size → w1.cell? ⟨b, o, none⟩ = W.cell? ⟨b, o, none⟩) ∧ (∀ b o, b < W.heap.size → w1.frozen? ⟨b, o, none⟩ = W.frozen? ⟨b, o, none⟩) :=
  ⟨fun b o h => hb.cell (p := ⟨b, o, none⟩) h, fun b o h => hb.frozen (p := ⟨b, o, none⟩) h⟩
theorem bstep {w a b : World} (h1 : Below w.heap.size w a) (h2 : Below a.heap.size a b) : Below w.heap.size w b := h1.trans (h2.mono h1.size)
theorem balloc {w a : World} (h : Below w.heap.size w a) (o : Obj) : Below w.heap.size w (a.alloc o) := h.alloc h.size o
theorem ret_int {k : IntKind} {a b : Int} (h : a = b) : Ending.returned (.int k a) = .returned (.int k b) := by rw [h]
theorem ret_int_bool {k : IntKind} {a b : Int} {c d : Bool} (h : a = b) (h2 : c = d) : Ending.returned (.tuple #[.int k a, .bool c]) = .returned (.tuple #[.int k b, .bool d]) := by rw [h, h2]
theorem may_any (b : Int) (s : Bool) (w : World) :
    Calls Tryz.prog 157 #[Wd b s] w fun e w' => e = .returned (.bool (mayB b)) ∧ Below w.heap.size w w' := by
  by_cases h8 : b = 8
  · subst h8
    go_enter Tryz.func157, Tryz.ntmps157
    go_wp2
    go_ret
    exact ⟨rfl, by (repeat' (first | with_reducible assumption | with_reducible exact Below.refl _ _ | (with_reducible refine below_drewN ?_ _) | (with_reducible refine Below.drew ?_) | (with_reducible refine balloc ?_ _) | (with_reducible refine Below.setCell ?_ (by first | exact Nat.le_refl _ | (simp; done) | omega | (simp; omega)) _) | (with_reducible refine bstep ?_ (by with_reducible assumption))))⟩
  by_cases h16 : b = 16
  · subst h16
    go_enter Tryz.func157, Tryz.ntmps157
    go_wp2
    go_ret
    exact ⟨rfl, by (repeat' (first | with_reducible assumption | with_reducible exact Below.refl _ _ | (with_reducible refine below_drewN ?_ _) | (with_reducible refine Below.drew ?_) | (with_reducible refine balloc ?_ _) | (with_reducible refine Below.setCell ?_ (by first | exact Nat.le_refl _ | (simp; done) | omega | (simp; omega)) _) | (with_reducible refine bstep ?_ (by with_reducible assumption))))⟩
  by_cases h32 : b = 32
  · subst h32
    go_enter Tryz.func157, Tryz.ntmps157
    go_wp2
    go_ret
    exact ⟨rfl, by (repeat' (first | with_reducible assumption | with_reducible exact Below.refl _ _ | (with_reducible refine below_drewN ?_ _) | (with_reducible refine Below.drew ?_) | (with_reducible refine balloc ?_ _) | (with_reducible refine Below.setCell ?_ (by first | exact Nat.le_refl _ | (simp; done) | omega | (simp; omega)) _) | (with_reducible refine bstep ?_ (by with_reducible assumption))))⟩
  by_cases h64 : b = 64
  · subst h64
    go_enter Tryz.func157, Tryz.ntmps157
    go_wp2
    go_ret
    exact ⟨rfl, by (repeat' (first | with_reducible assumption | with_reducible exact Below.refl _ _ | (with_reducible refine below_drewN ?_ _) | (with_reducible refine Below.drew ?_) | (with_reducible refine balloc ?_ _) | (with_reducible refine Below.setCell ?_ (by first | exact Nat.le_refl _ | (simp; done) | omega | (simp; omega)) _) | (with_reducible refine bstep ?_ (by with_reducible assumption))))⟩
  have e8 : (b == 8) = false := by simpa using h8
  have e16 : (b == 16) = false := by simpa using h16
  have e32 : (b == 32) = false := by simpa using h32
  have e64 : (b == 64) = false := by simpa using h64
  have hm : mayB b = false := by simp [mayB, e8, e16, e32, e64]
  clear h8 h16 h32 h64
  go_enter Tryz.func157, Tryz.ntmps157
  go_wp2
  go_ret
  exact ⟨by rw [hm]; rfl, by (repeat' (first | with_reducible assumption | with_reducible exact Below.refl _ _ | (with_reducible refine below_drewN ?_ _) | (with_reducible refine Below.drew ?_) | (with_reducible refine balloc ?_ _) | (with_reducible refine Below.setCell ?_ (by first | exact Nat.le_refl _ | (simp; done) | omega | (simp; omega)) _) | (with_reducible refine bstep ?_ (by with_reducible assumption))))⟩
theorem wrap_any (b : Int) (hb8 : b = 8 ∨ b = 16 ∨ b = 32 ∨ b = 64) (s : Bool) (n : Int) (w : World) :
    Calls Tryz.prog 144 #[Wd b s, .int .i64 n] w fun e w' => e = .returned (.int .i64 (wrapW b s n)) ∧ Below w.heap.size w w' := by
  have hm : mayB b = true := by rcases hb8 with h | h | h | h <;> subst h <;> rfl
  have hb0 : 0 ≤ 64 - b := by omega
  have hb1 : 64 - b ≤ 56 := by omega
  clear hb8
  cases s
  · go_enter Tryz.func144, Tryz.ntmps144
    go_wp2_with (go_at_call 157; refine (may_any _ _ _).mono ?_; rintro e w' ⟨rfl, hb⟩; obtain ⟨hc, hf⟩ := bcell hb)
    go_quiet (fail)
    go_wp2
    go_ret
    exact ⟨rfl, by (repeat' (first | with_reducible assumption | with_reducible exact Below.refl _ _ | (with_reducible refine below_drewN ?_ _) | (with_reducible refine Below.drew ?_) | (with_reducible refine balloc ?_ _) | (with_reducible refine Below.setCell ?_ (by first | exact Nat.le_refl _ | (simp; done) | omega | (simp; omega)) _) | (with_reducible refine bstep ?_ (by with_reducible assumption))))⟩
  · go_enter Tryz.func144, Tryz.ntmps144
    go_wp2_with (go_at_call 157; refine (may_any _ _ _).mono ?_; rintro e w' ⟨rfl, hb⟩; obtain ⟨hc, hf⟩ := bcell hb)
    go_quiet (fail)
    go_wp2
    go_ret
    exact ⟨rfl, by (repeat' (first | with_reducible assumption | with_reducible exact Below.refl _ _ | (with_reducible refine below_drewN ?_ _) | (with_reducible refine Below.drew ?_) | (with_reducible refine balloc ?_ _) | (with_reducible refine Below.setCell ?_ (by first | exact Nat.le_refl _ | (simp; done) | omega | (simp; omega)) _) | (with_reducible refine bstep ?_ (by with_reducible assumption))))⟩
def In64 (n : Int) : Prop := -9223372036854775808 ≤ n ∧ n ≤ 9223372036854775807
theorem In64.wrap (n : Int) : In64 (wrap64 n) := by unfold In64 wrap64; omega
theorem wrap64_in {n : Int} (h : In64 n) : wrap64 n = n := by unfold In64 at h; unfold wrap64; omega
theorem u64_eq (n : Int) : u64 n = n % 18446744073709551616 := by unfold u64 IntKind.wrap; simp [IntKind.signed, IntKind.bits]
theorem wrap64_u64 (n : Int) : wrap64 (u64 n) = wrap64 n := by rw [u64_eq]; unfold wrap64; omega
theorem wrapW_64 (s : Bool) {n : Int} (h : In64 n) : wrapW 64 s n = n := by
  unfold wrapW
  cases s
  · rw [if_neg (by simp), show ((64 : Int) - 64).toNat = 0 from rfl, Int.pow_zero, Int.mul_one, Int.ediv_one, u64_eq (u64 n), u64_eq, Int.emod_emod_of_dvd _ (Int.dvd_refl _), ← u64_eq, wrap64_u64, wrap64_in h]
  · rw [if_pos rfl, show ((64 : Int) - 64).toNat = 0 from rfl, Int.pow_zero, Int.mul_one, Int.ediv_one, wrap64_in h]
theorem wrap_64 (s : Bool) (n : Int) (h : In64 n) (w : World) :
    Calls Tryz.prog 144 #[Wd 64 s, .int .i64 n] w fun e w' => e = .returned (.int .i64 n) ∧ Below w.heap.size w w' := by
  have := wrap_any 64 (by omega) s n w
  rw [wrapW_64 s h] at this
  exact this
theorem wrap_64w (s : Bool) (n : Int) (w : World) :
    Calls Tryz.prog 144 #[Wd 64 s, .int .i64 (wrap64 n)] w fun e w' => e = .returned (.int .i64 (wrap64 n)) ∧ Below w.heap.size w w' := wrap_64 s _ (In64.wrap n) w
theorem and63 (b : Int) : Go.bits .and .i64 b 63 = b % 64 := by
  have e : Go.bits .and .i64 b 63 = IntKind.i64.wrap ((BitVec.ofInt 64 b &&& BitVec.ofInt 64 63).toNat : Int) := rfl
  rw [e, BitVec.toNat_and, BitVec.toNat_ofInt, BitVec.toNat_ofInt]
  rw [show ((63 : Int) % (2 ^ 64 : Nat)).toNat = 2 ^ 6 - 1 from rfl, Nat.and_two_pow_sub_one_eq_mod]
  rw [IntKind.wrap_i64]
  omega
theorem least_64 (s : Bool) (w : World) : Calls Tryz.prog 169 #[Wd 64 s] w fun e w' => e = .returned (.int .i64 (-9223372036854775808)) ∧ Below w.heap.size w w' := by
  go_enter Tryz.func169, Tryz.ntmps169
  go_wp2
  go_ret
  exact ⟨rfl, by (repeat' (first | with_reducible assumption | with_reducible exact Below.refl _ _ | (with_reducible refine below_drewN ?_ _) | (with_reducible refine Below.drew ?_) | (with_reducible refine balloc ?_ _) | (with_reducible refine Below.setCell ?_ (by first | exact Nat.le_refl _ | (simp; done) | omega | (simp; omega)) _) | (with_reducible refine bstep ?_ (by with_reducible assumption))))⟩
theorem sar_any (a b : Int) (h0 : 0 ≤ b) (h1 : b < 64) (w : World) :
    Calls Tryz.prog 158 #[Wd 64 true, .int .i64 13, .int .i64 a, .int .i64 b] w fun e w' => e = .returned (.tuple #[.int .i64 (a / 2 ^ b.toNat), .bool true]) ∧ Below w.heap.size w w' := by
  go_enter Tryz.func158, Tryz.ntmps158
  go_wp2
  go_ret2
  exact ⟨rfl, by (repeat' (first | with_reducible assumption | with_reducible exact Below.refl _ _ | (with_reducible refine below_drewN ?_ _) | (with_reducible refine Below.drew ?_) | (with_reducible refine balloc ?_ _) | (with_reducible refine Below.setCell ?_ (by first | exact Nat.le_refl _ | (simp; done) | omega | (simp; omega)) _) | (with_reducible refine bstep ?_ (by with_reducible assumption))))⟩
theorem shr_any (a b : Int) (h0 : 0 ≤ b) (h1 : b < 64) (w : World) :
    Calls Tryz.prog 158 #[Wd 64 false, .int .i64 12, .int .i64 a, .int .i64 b] w fun e w' => e = .returned (.tuple #[.int .i64 (wrap64 (u64 a / 2 ^ b.toNat)), .bool true]) ∧ Below w.heap.size w w' := by
  go_enter Tryz.func158, Tryz.ntmps158
  go_wp2
  go_ret2
  exact ⟨rfl, by (repeat' (first | with_reducible assumption | with_reducible exact Below.refl _ _ | (with_reducible refine below_drewN ?_ _) | (with_reducible refine Below.drew ?_) | (with_reducible refine balloc ?_ _) | (with_reducible refine Below.setCell ?_ (by first | exact Nat.le_refl _ | (simp; done) | omega | (simp; omega)) _) | (with_reducible refine bstep ?_ (by with_reducible assumption))))⟩
theorem region_tail {P : Program} {id : Nat} {Q : Exit → Act → World → Prop} {a : Act} {w : World} {l : List Oper} (n : Nat) (hm : P.follows .mixedOrders = true) (hB : Region.lexTailB .any l.toArray n = true)
    (h : wpStill P l.toArray w.drew (fun a' => wpList P l.toArray Q (l.drop n) a' w.drew) (l.take n) a) : (Code.region id l.toArray true).wp P Q a w := wp_region_still_tail n hm hB h
set_option maxRecDepth 100000 in
theorem shl_any (a b : Int) (h0 : 0 ≤ b) (h1 : b < 64) (w : World) :
    Calls Tryz.prog 158 #[Wd 64 false, .int .i64 11, .int .i64 a, .int .i64 b] w fun e w' => e = .returned (.tuple #[.int .i64 (wrap64 (a * 2 ^ b.toNat)), .bool true]) ∧ Below w.heap.size w w' := by
  go_enter Tryz.func158, Tryz.ntmps158
  go_wp2
  refine region_tail 4 (by kernel_rfl) (by kernel_rfl) ?_
  simp only [List.take_succ_cons, List.take_zero, List.drop_succ_cons, List.drop_zero]
  repeat (refine wpStill_step (fun K hK => ?_); go_simp; refine hK _ ?_; clear hK K)
  refine wpStill_nil ?_
  go_wp2_with (go_at_call 144; refine (wrap_64w _ _ _).mono ?_; rintro e w' ⟨rfl, hb⟩; obtain ⟨hc, hf⟩ := bcell hb)
  go_ret2
  exact ⟨rfl, by (repeat' (first | with_reducible assumption | with_reducible exact Below.refl _ _ | (with_reducible refine below_drewN ?_ _) | (with_reducible refine Below.drew ?_) | (with_reducible refine balloc ?_ _) | (with_reducible refine Below.setCell ?_ (by first | exact Nat.le_refl _ | (simp; done) | omega | (simp; omega)) _) | (with_reducible refine bstep ?_ (by with_reducible assumption))))⟩
theorem quo_zero (s : Bool) (sub : Int) (hs : sub = 4 ∨ sub = 5 ∨ sub = 6 ∨ sub = 7) (a : Int) (w : World) :
    Calls Tryz.prog 161 #[Wd 64 s, .int .i64 sub, .int .i64 a, .int .i64 0] w fun e w' => e = .returned (.tuple #[.int .i64 0, .bool false]) ∧ Below w.heap.size w w' := by
  rcases hs with h | h | h | h <;> subst h
  all_goals
    go_enter Tryz.func161, Tryz.ntmps161
    go_wp2
    go_ret2
    exact ⟨rfl, by (repeat' (first | with_reducible assumption | with_reducible exact Below.refl _ _ | (with_reducible refine below_drewN ?_ _) | (with_reducible refine Below.drew ?_) | (with_reducible refine balloc ?_ _) | (with_reducible refine Below.setCell ?_ (by first | exact Nat.le_refl _ | (simp; done) | omega | (simp; omega)) _) | (with_reducible refine bstep ?_ (by with_reducible assumption))))⟩
theorem quo_least (sub : Int) (hs : sub = 4 ∨ sub = 5) (w : World) :
    Calls Tryz.prog 161 #[Wd 64 true, .int .i64 sub, .int .i64 (-9223372036854775808), .int .i64 (-1)] w fun e w' => e = .returned (.tuple #[.int .i64 0, .bool false]) ∧ Below w.heap.size w w' := by
  rcases hs with h | h <;> subst h
  all_goals
    go_enter Tryz.func161, Tryz.ntmps161
    go_wp2_with (go_at_call 169; refine (least_64 _ _).mono ?_; rintro e w' ⟨rfl, hb⟩; obtain ⟨hc, hf⟩ := bcell hb)
    go_ret2
    exact ⟨rfl, by (repeat' (first | with_reducible assumption | with_reducible exact Below.refl _ _ | (with_reducible refine below_drewN ?_ _) | (with_reducible refine Below.drew ?_) | (with_reducible refine balloc ?_ _) | (with_reducible refine Below.setCell ?_ (by first | exact Nat.le_refl _ | (simp; done) | omega | (simp; omega)) _) | (with_reducible refine bstep ?_ (by with_reducible assumption))))⟩
theorem beq_f {a b : Int} (h : a ≠ b) : (a == b) = false := beq_eq_false_iff_ne.2 h
theorem tdiv_in {a d : Int} (ha : In64 a) (h0 : d ≠ 0) (h1 : ¬ (d = -1 ∧ a = -9223372036854775808)) : In64 (a.tdiv d) := by
  have hq : (a.tdiv d).natAbs = a.natAbs / d.natAbs := Int.natAbs_tdiv a d
  unfold In64 at ha ⊢
  have hd : 1 ≤ d.natAbs := by omega
  have hle : a.natAbs / d.natAbs ≤ a.natAbs := Nat.div_le_self _ _
  by_cases hd1 : d.natAbs = 1
  · rcases (by omega : d = 1 ∨ d = -1) with h | h
    · subst h; rw [Int.tdiv_one]; exact ha
    · subst h
      have : a.tdiv (-1) = -a := by rw [Int.tdiv_neg, Int.tdiv_one]
      omega
  · have : a.natAbs / d.natAbs ≤ a.natAbs / 2 := Nat.div_le_div_left (by omega) (by omega)
    omega
theorem tmod_in {a d : Int} (ha : In64 a) : In64 (a.tmod d) := by
  have hq : (a.tmod d).natAbs = a.natAbs % d.natAbs := Int.natAbs_tmod a d
  have : a.natAbs % d.natAbs ≤ a.natAbs := Nat.mod_le _ _
  have h3 : 0 ≤ a → 0 ≤ a.tmod d := fun h => Int.tmod_nonneg d h
  have h4 : a ≤ 0 → a.tmod d ≤ 0 := fun h => by
    have := Int.tmod_nonneg d (show 0 ≤ -a by omega)
    rw [Int.neg_tmod] at this; omega
  unfold In64 at ha ⊢
  omega
theorem quo_signed (sub r : Int) (a d : Int) (hs : sub = 4 ∧ r = a.tdiv d ∨ sub = 5 ∧ r = a.tmod d) (ha : In64 a) (h0 : ¬ d = 0) (h1 : ¬ (d = -1 ∧ a = -9223372036854775808)) (w : World) :
    Calls Tryz.prog 161 #[Wd 64 true, .int .i64 sub, .int .i64 a, .int .i64 d] w fun e w' => e = .returned (.tuple #[.int .i64 r, .bool true]) ∧ Below w.heap.size w w' := by
  have e0 : (d == 0) = false := beq_f h0
  have H0 := Lib.hid h0
  have H1 := Lib.hid h1
  have Ha := Lib.hid ha
  clear h1 ha
  by_cases hd : d = -1
  · subst hd
    have ea : (a == -9223372036854775808) = false := beq_f (fun h => H1.out ⟨rfl, h⟩)
    have Q : Hid (wrap64 (-a) = -a) := Lib.hid (wrap64_in (by have h2 := H1.out; have h3 := Ha.out; unfold In64 at h3 ⊢; omega))
    clear e0 h0
    rcases hs with ⟨rfl, hs⟩ | ⟨rfl, hs⟩
    · rw [show a.tdiv (-1) = -a by rw [Int.tdiv_neg, Int.tdiv_one]] at hs
      subst hs
      go_enter Tryz.func161, Tryz.ntmps161
      go_wp2_with (go_at_call 169; refine (least_64 _ _).mono ?_; rintro e w' ⟨rfl, hb⟩; obtain ⟨hc, hf⟩ := bcell hb)
      go_ret2
      exact ⟨ret_int_bool Q.out rfl, by (repeat' (first | with_reducible assumption | with_reducible exact Below.refl _ _ | (with_reducible refine below_drewN ?_ _) | (with_reducible refine Below.drew ?_) | (with_reducible refine balloc ?_ _) | (with_reducible refine Below.setCell ?_ (by first | exact Nat.le_refl _ | (simp; done) | omega | (simp; omega)) _) | (with_reducible refine bstep ?_ (by with_reducible assumption))))⟩
    · rw [show a.tmod (-1) = 0 by simp] at hs
      subst hs
      go_enter Tryz.func161, Tryz.ntmps161
      go_wp2_with (go_at_call 169; refine (least_64 _ _).mono ?_; rintro e w' ⟨rfl, hb⟩; obtain ⟨hc, hf⟩ := bcell hb)
      go_ret2
      exact ⟨ret_int_bool rfl rfl, by (repeat' (first | with_reducible assumption | with_reducible exact Below.refl _ _ | (with_reducible refine below_drewN ?_ _) | (with_reducible refine Below.drew ?_) | (with_reducible refine balloc ?_ _) | (with_reducible refine Below.setCell ?_ (by first | exact Nat.le_refl _ | (simp; done) | omega | (simp; omega)) _) | (with_reducible refine bstep ?_ (by with_reducible assumption))))⟩
  · have e1 : (d == -1) = false := beq_f hd
    clear hd
    rcases hs with ⟨rfl, rfl⟩ | ⟨rfl, rfl⟩
    · go_enter Tryz.func161, Tryz.ntmps161
      go_wp2
      go_ret2
      exact ⟨ret_int_bool (wrap64_in (tdiv_in Ha.out H0.out H1.out)) rfl, by (repeat' (first | with_reducible assumption | with_reducible exact Below.refl _ _ | (with_reducible refine below_drewN ?_ _) | (with_reducible refine Below.drew ?_) | (with_reducible refine balloc ?_ _) | (with_reducible refine Below.setCell ?_ (by first | exact Nat.le_refl _ | (simp; done) | omega | (simp; omega)) _) | (with_reducible refine bstep ?_ (by with_reducible assumption))))⟩
    · go_enter Tryz.func161, Tryz.ntmps161
      go_wp2
      go_ret2
      exact ⟨ret_int_bool rfl rfl, by (repeat' (first | with_reducible assumption | with_reducible exact Below.refl _ _ | (with_reducible refine below_drewN ?_ _) | (with_reducible refine Below.drew ?_) | (with_reducible refine balloc ?_ _) | (with_reducible refine Below.setCell ?_ (by first | exact Nat.le_refl _ | (simp; done) | omega | (simp; omega)) _) | (with_reducible refine bstep ?_ (by with_reducible assumption))))⟩
theorem u64_ran (n : Int) : 0 ≤ u64 n ∧ u64 n < 18446744073709551616 := by rw [u64_eq]; omega
theorem u64_u64 (n : Int) : u64 (u64 n) = u64 n := by rw [u64_eq, u64_eq]; omega
theorem quo_unsigned (sub r : Int) (a d : Int) (hs : sub = 6 ∧ r = wrap64 (u64 a / u64 d) ∨ sub = 7 ∧ r = wrap64 (u64 a % u64 d)) (h0 : ¬ d = 0) (hd : In64 d) (w : World) :
    Calls Tryz.prog 161 #[Wd 64 false, .int .i64 sub, .int .i64 a, .int .i64 d] w fun e w' => e = .returned (.tuple #[.int .i64 r, .bool true]) ∧ Below w.heap.size w w' := by
  have e0 : (d == 0) = false := beq_f h0
  have hu : 1 ≤ u64 d := by rw [u64_eq]; unfold In64 at hd; omega
  have hu0 : ¬ IntKind.u64.wrap d = 0 := fun h => by unfold u64 at hu; omega
  have HU := Lib.hid hu
  clear h0 hd hu
  rcases hs with ⟨rfl, rfl⟩ | ⟨rfl, rfl⟩
  · go_enter Tryz.func161, Tryz.ntmps161
    go_wp2
    go_ret2
    refine ⟨ret_int_bool ?_ rfl, by (repeat' (first | with_reducible assumption | with_reducible exact Below.refl _ _ | (with_reducible refine below_drewN ?_ _) | (with_reducible refine Below.drew ?_) | (with_reducible refine balloc ?_ _) | (with_reducible refine Below.setCell ?_ (by first | exact Nat.le_refl _ | (simp; done) | omega | (simp; omega)) _) | (with_reducible refine bstep ?_ (by with_reducible assumption))))⟩
    show wrap64 (u64 ((u64 a).tdiv (u64 d))) = wrap64 (u64 a / u64 d)
    rw [wrap64_u64, Int.tdiv_eq_ediv_of_nonneg (u64_ran a).1]
  · go_enter Tryz.func161, Tryz.ntmps161
    go_wp2
    go_ret2
    refine ⟨ret_int_bool ?_ rfl, by (repeat' (first | with_reducible assumption | with_reducible exact Below.refl _ _ | (with_reducible refine below_drewN ?_ _) | (with_reducible refine Below.drew ?_) | (with_reducible refine balloc ?_ _) | (with_reducible refine Below.setCell ?_ (by first | exact Nat.le_refl _ | (simp; done) | omega | (simp; omega)) _) | (with_reducible refine bstep ?_ (by with_reducible assumption))))⟩
    show wrap64 ((u64 a).tmod (u64 d)) = wrap64 (u64 a % u64 d)
    rw [Int.tmod_eq_emod_of_nonneg (u64_ran a).1]
/-! ### Binary -/
theorem may_64 (s : Bool) (w : World) :
    Calls Tryz.prog 157 #[Wd 64 s] w fun e w' => e = .returned (.bool true) ∧ Below w.heap.size w w' := may_any 64 s w
set_option maxRecDepth 100000 in
theorem bin_sum (sub r : Int) (a b : Int) (ha : In64 a) (hb : In64 b) (hs : sub = 1 ∧ r = wrap64 (a + b) ∨ sub = 2 ∧ r = wrap64 (a - b) ∨ sub = 3 ∧ r = wrap64 (a * b)) (w : World) :
    Calls Tryz.prog 145 #[Wd 64 false, .int .i64 sub, .int .i64 a, .int .i64 b] w fun e w' => e = .returned (.tuple #[.int .i64 r, .bool true]) ∧ Below w.heap.size w w' := by
  have HA := Lib.hid ha
  have HB := Lib.hid hb
  clear ha hb
  rcases hs with ⟨rfl, rfl⟩ | ⟨rfl, rfl⟩ | ⟨rfl, rfl⟩
  all_goals
    go_enter Tryz.func145, Tryz.ntmps145
    go_wp2_with fail
    refine (may_64 _ _).mono ?_
    rintro e w1 ⟨rfl, hbw1⟩
    obtain ⟨hcw1, hfw1⟩ := bcell hbw1
    go_wp2_with fail
    refine (wrap_64 _ _ HA.out _).mono ?_
    rintro e w2 ⟨rfl, hbw2⟩
    obtain ⟨hcw2, hfw2⟩ := bcell hbw2
    have z1 : w.heap.size < w1.heap.size := by have := hbw1.size; simp at this; omega
    go_wp2_with fail
    refine (wrap_64 _ _ HB.out _).mono ?_
    rintro e w3 ⟨rfl, hbw3⟩
    obtain ⟨hcw3, hfw3⟩ := bcell hbw3
    have z2 : w.heap.size < w2.heap.size := by have := hbw2.size; omega
    go_wp2_with fail
    refine (wrap_64w _ _ _).mono ?_
    rintro e w4 ⟨rfl, hbw4⟩
    obtain ⟨hcw4, hfw4⟩ := bcell hbw4
    go_wp2_with fail
    go_ret2
    exact ⟨rfl, by (repeat' (first | with_reducible assumption | with_reducible exact Below.refl _ _ | (with_reducible refine below_drewN ?_ _) | (with_reducible refine Below.drew ?_) | (with_reducible refine balloc ?_ _) | (with_reducible refine Below.setCell ?_ (by first | exact Nat.le_refl _ | (simp; done) | omega | (simp; omega)) _) | (with_reducible refine bstep ?_ (by with_reducible assumption))))⟩
set_option maxRecDepth 100000 in
theorem bin_bits (sub r : Int) (a b : Int) (ha : In64 a) (hb : In64 b) (hs : sub = 8 ∧ r = Go.bits .and .i64 a b ∨ sub = 9 ∧ r = Go.bits .or .i64 a b ∨ sub = 10 ∧ r = Go.bits .xor .i64 a b) (w : World) :
    Calls Tryz.prog 145 #[Wd 64 false, .int .i64 sub, .int .i64 a, .int .i64 b] w fun e w' => e = .returned (.tuple #[.int .i64 r, .bool true]) ∧ Below w.heap.size w w' := by
  have HA := Lib.hid ha
  have HB := Lib.hid hb
  clear ha hb
  rcases hs with ⟨rfl, rfl⟩ | ⟨rfl, rfl⟩ | ⟨rfl, rfl⟩
  all_goals
    go_enter Tryz.func145, Tryz.ntmps145
    go_wp2_with fail
    refine (may_64 _ _).mono ?_
    rintro e w1 ⟨rfl, hbw1⟩
    obtain ⟨hcw1, hfw1⟩ := bcell hbw1
    go_wp2_with fail
    refine (wrap_64 _ _ HA.out _).mono ?_
    rintro e w2 ⟨rfl, hbw2⟩
    obtain ⟨hcw2, hfw2⟩ := bcell hbw2
    have z1 : w.heap.size < w1.heap.size := by have := hbw1.size; simp at this; omega
    go_wp2_with fail
    refine (wrap_64 _ _ HB.out _).mono ?_
    rintro e w3 ⟨rfl, hbw3⟩
    obtain ⟨hcw3, hfw3⟩ := bcell hbw3
    go_wp2_with fail
    go_ret2
    exact ⟨rfl, by (repeat' (first | with_reducible assumption | with_reducible exact Below.refl _ _ | (with_reducible refine below_drewN ?_ _) | (with_reducible refine Below.drew ?_) | (with_reducible refine balloc ?_ _) | (with_reducible refine Below.setCell ?_ (by first | exact Nat.le_refl _ | (simp; done) | omega | (simp; omega)) _) | (with_reducible refine bstep ?_ (by with_reducible assumption))))⟩
set_option maxRecDepth 100000 in
theorem bin_shl (a b : Int) (ha : In64 a) (h0 : 0 ≤ b) (h1 : b < 64) (w : World) :
    Calls Tryz.prog 145 #[Wd 64 false, .int .i64 11, .int .i64 a, .int .i64 b] w fun e w' => e = .returned (.tuple #[.int .i64 (wrap64 (a * 2 ^ b.toNat)), .bool true]) ∧ Below w.heap.size w w' := by
  have HA := Lib.hid ha
  clear ha
  go_enter Tryz.func145, Tryz.ntmps145
  go_wp2_with fail
  refine (may_64 _ _).mono ?_
  rintro e w1 ⟨rfl, hbw1⟩
  obtain ⟨hcw1, hfw1⟩ := bcell hbw1
  go_wp2_with fail
  refine (wrap_64 _ _ HA.out _).mono ?_
  rintro e w2 ⟨rfl, hbw2⟩
  obtain ⟨hcw2, hfw2⟩ := bcell hbw2
  have z1 : w.heap.size < w1.heap.size := by have := hbw1.size; simp at this; omega
  go_wp2_with fail
  refine (shl_any _ _ h0 h1 _).mono ?_
  rintro e w3 ⟨rfl, hbw3⟩
  obtain ⟨hcw3, hfw3⟩ := bcell hbw3
  go_wp2_with fail
  go_ret2
  exact ⟨rfl, by (repeat' (first | with_reducible assumption | with_reducible exact Below.refl _ _ | (with_reducible refine below_drewN ?_ _) | (with_reducible refine Below.drew ?_) | (with_reducible refine balloc ?_ _) | (with_reducible refine Below.setCell ?_ (by first | exact Nat.le_refl _ | (simp; done) | omega | (simp; omega)) _) | (with_reducible refine bstep ?_ (by with_reducible assumption))))⟩
set_option maxRecDepth 100000 in
theorem bin_shr (a b : Int) (ha : In64 a) (h0 : 0 ≤ b) (h1 : b < 64) (w : World) :
    Calls Tryz.prog 145 #[Wd 64 false, .int .i64 12, .int .i64 a, .int .i64 b] w fun e w' => e = .returned (.tuple #[.int .i64 (wrap64 (u64 a / 2 ^ b.toNat)), .bool true]) ∧ Below w.heap.size w w' := by
  have HA := Lib.hid ha
  clear ha
  go_enter Tryz.func145, Tryz.ntmps145
  go_wp2_with fail
  refine (may_64 _ _).mono ?_
  rintro e w1 ⟨rfl, hbw1⟩
  obtain ⟨hcw1, hfw1⟩ := bcell hbw1
  go_wp2_with fail
  refine (wrap_64 _ _ HA.out _).mono ?_
  rintro e w2 ⟨rfl, hbw2⟩
  obtain ⟨hcw2, hfw2⟩ := bcell hbw2
  have z1 : w.heap.size < w1.heap.size := by have := hbw1.size; simp at this; omega
  go_wp2_with fail
  refine (shr_any _ _ h0 h1 _).mono ?_
  rintro e w3 ⟨rfl, hbw3⟩
  obtain ⟨hcw3, hfw3⟩ := bcell hbw3
  go_wp2_with fail
  go_ret2
  exact ⟨rfl, by (repeat' (first | with_reducible assumption | with_reducible exact Below.refl _ _ | (with_reducible refine below_drewN ?_ _) | (with_reducible refine Below.drew ?_) | (with_reducible refine balloc ?_ _) | (with_reducible refine Below.setCell ?_ (by first | exact Nat.le_refl _ | (simp; done) | omega | (simp; omega)) _) | (with_reducible refine bstep ?_ (by with_reducible assumption))))⟩
set_option maxRecDepth 100000 in
theorem bin_sar (a b : Int) (ha : In64 a) (h0 : 0 ≤ b) (h1 : b < 64) (w : World) :
    Calls Tryz.prog 145 #[Wd 64 true, .int .i64 13, .int .i64 a, .int .i64 b] w fun e w' => e = .returned (.tuple #[.int .i64 (a / 2 ^ b.toNat), .bool true]) ∧ Below w.heap.size w w' := by
  have HA := Lib.hid ha
  clear ha
  go_enter Tryz.func145, Tryz.ntmps145
  go_wp2_with fail
  refine (may_64 _ _).mono ?_
  rintro e w1 ⟨rfl, hbw1⟩
  obtain ⟨hcw1, hfw1⟩ := bcell hbw1
  go_wp2_with fail
  refine (wrap_64 _ _ HA.out _).mono ?_
  rintro e w2 ⟨rfl, hbw2⟩
  obtain ⟨hcw2, hfw2⟩ := bcell hbw2
  have z1 : w.heap.size < w1.heap.size := by have := hbw1.size; simp at this; omega
  go_wp2_with fail
  refine (sar_any _ _ h0 h1 _).mono ?_
  rintro e w3 ⟨rfl, hbw3⟩
  obtain ⟨hcw3, hfw3⟩ := bcell hbw3
  go_wp2_with fail
  go_ret2
  exact ⟨rfl, by (repeat' (first | with_reducible assumption | with_reducible exact Below.refl _ _ | (with_reducible refine below_drewN ?_ _) | (with_reducible refine Below.drew ?_) | (with_reducible refine balloc ?_ _) | (with_reducible refine Below.setCell ?_ (by first | exact Nat.le_refl _ | (simp; done) | omega | (simp; omega)) _) | (with_reducible refine bstep ?_ (by with_reducible assumption))))⟩
set_option maxRecDepth 100000 in
theorem bin_quo (s : Bool) (sub : Int) (hs : sub = 4 ∨ sub = 5 ∨ sub = 6 ∨ sub = 7) (r : Int) (ok : Bool) (a b : Int) (ha : In64 a) (hb : In64 b)
    (hq : ∀ w : World, Calls Tryz.prog 161 #[Wd 64 s, .int .i64 sub, .int .i64 a, .int .i64 b] w fun e w' => e = .returned (.tuple #[.int .i64 r, .bool ok]) ∧ Below w.heap.size w w') (w : World) :
    Calls Tryz.prog 145 #[Wd 64 s, .int .i64 sub, .int .i64 a, .int .i64 b] w fun e w' => e = .returned (.tuple #[.int .i64 r, .bool ok]) ∧ Below w.heap.size w w' := by
  have HA := Lib.hid ha
  have HB := Lib.hid hb
  have HQ := Lib.hid hq
  clear ha hb hq
  rcases hs with rfl | rfl | rfl | rfl
  all_goals
    go_enter Tryz.func145, Tryz.ntmps145
    go_wp2_with fail
    refine (may_64 _ _).mono ?_
    rintro e w1 ⟨rfl, hbw1⟩
    obtain ⟨hcw1, hfw1⟩ := bcell hbw1
    go_wp2_with fail
    refine (wrap_64 _ _ HA.out _).mono ?_
    rintro e w2 ⟨rfl, hbw2⟩
    obtain ⟨hcw2, hfw2⟩ := bcell hbw2
    have z1 : w.heap.size < w1.heap.size := by have := hbw1.size; simp at this; omega
    go_wp2_with fail
    refine (wrap_64 _ _ HB.out _).mono ?_
    rintro e w3 ⟨rfl, hbw3⟩
    obtain ⟨hcw3, hfw3⟩ := bcell hbw3
    have z2 : w.heap.size < w2.heap.size := by have := hbw2.size; omega
    go_wp2_with fail
    refine (HQ.out _).mono ?_
    rintro e w4 ⟨rfl, hbw4⟩
    obtain ⟨hcw4, hfw4⟩ := bcell hbw4
    go_wp2_with fail
    go_ret2
    exact ⟨rfl, by (repeat' (first | with_reducible assumption | with_reducible exact Below.refl _ _ | (with_reducible refine below_drewN ?_ _) | (with_reducible refine Below.drew ?_) | (with_reducible refine balloc ?_ _) | (with_reducible refine Below.setCell ?_ (by first | exact Nat.le_refl _ | (simp; done) | omega | (simp; omega)) _) | (with_reducible refine bstep ?_ (by with_reducible assumption))))⟩
end Go.Proofs.YtfkfdffhajokkaaGreatDoor
/- What Plain of the program's package word answers at the operations that package x86 asks for; conditions: numbers of 64 bits. -/
namespace Go.Proofs.YtfkfdffhajokkaaGreatDoor
open Go.RowKit X
theorem mod64 (b : Int) : 0 ≤ b % 64 ∧ b % 64 < 64 := by omega
set_option maxRecDepth 100000 in
theorem plain_low (sub r : Int) (hs : sub = 1 ∨ sub = 2 ∨ sub = 3 ∨ sub = 6 ∨ sub = 7 ∨ sub = 8 ∨ sub = 9 ∨ sub = 10) (ok : Bool) (a b : Int)
    (hq : ∀ w : World, Calls Tryz.prog 145 #[Wd 64 false, .int .i64 sub, .int .i64 a, .int .i64 b] w fun e w' => e = .returned (.tuple #[.int .i64 r, .bool ok]) ∧ Below w.heap.size w w') (w : World) :
    Calls Tryz.prog 118 #[.int .i64 sub, .int .i64 a, .int .i64 b] w fun e w' => e = .returned (.tuple #[.int .i64 r, .bool ok]) ∧ Below w.heap.size w w' := by
  have HQ := Lib.hid hq
  clear hq
  rcases hs with rfl | rfl | rfl | rfl | rfl | rfl | rfl | rfl
  all_goals
    go_enter Tryz.func118, Tryz.ntmps118
    go_wp2_with fail
    refine (HQ.out _).mono ?_
    rintro e w4 ⟨rfl, hbw4⟩
    obtain ⟨hcw4, hfw4⟩ := bcell hbw4
    go_wp2_with fail
    go_ret2
    exact ⟨rfl, by (repeat' (first | with_reducible assumption | with_reducible exact Below.refl _ _ | (with_reducible refine below_drewN ?_ _) | (with_reducible refine Below.drew ?_) | (with_reducible refine balloc ?_ _) | (with_reducible refine Below.setCell ?_ (by first | exact Nat.le_refl _ | (simp; done) | omega | (simp; omega)) _) | (with_reducible refine bstep ?_ (by with_reducible assumption))))⟩
set_option maxRecDepth 100000 in
theorem plain_div (sub r : Int) (hs : sub = 4 ∨ sub = 5) (ok : Bool) (a b : Int)
    (hq : ∀ w : World, Calls Tryz.prog 145 #[Wd 64 true, .int .i64 sub, .int .i64 a, .int .i64 b] w fun e w' => e = .returned (.tuple #[.int .i64 r, .bool ok]) ∧ Below w.heap.size w w') (w : World) :
    Calls Tryz.prog 118 #[.int .i64 sub, .int .i64 a, .int .i64 b] w fun e w' => e = .returned (.tuple #[.int .i64 r, .bool ok]) ∧ Below w.heap.size w w' := by
  have HQ := Lib.hid hq
  clear hq
  rcases hs with rfl | rfl
  all_goals
    go_enter Tryz.func118, Tryz.ntmps118
    go_wp2_with fail
    refine (HQ.out _).mono ?_
    rintro e w4 ⟨rfl, hbw4⟩
    obtain ⟨hcw4, hfw4⟩ := bcell hbw4
    go_wp2_with fail
    go_ret2
    exact ⟨rfl, by (repeat' (first | with_reducible assumption | with_reducible exact Below.refl _ _ | (with_reducible refine below_drewN ?_ _) | (with_reducible refine Below.drew ?_) | (with_reducible refine balloc ?_ _) | (with_reducible refine Below.setCell ?_ (by first | exact Nat.le_refl _ | (simp; done) | omega | (simp; omega)) _) | (with_reducible refine bstep ?_ (by with_reducible assumption))))⟩
set_option maxRecDepth 100000 in
theorem plain_shift (sub r : Int) (s : Bool) (hs : sub = 11 ∧ s = false ∨ sub = 12 ∧ s = false ∨ sub = 13 ∧ s = true) (a b : Int)
    (hq : ∀ w : World, Calls Tryz.prog 145 #[Wd 64 s, .int .i64 sub, .int .i64 a, .int .i64 (b % 64)] w fun e w' => e = .returned (.tuple #[.int .i64 r, .bool true]) ∧ Below w.heap.size w w') (w : World) :
    Calls Tryz.prog 118 #[.int .i64 sub, .int .i64 a, .int .i64 b] w fun e w' => e = .returned (.tuple #[.int .i64 r, .bool true]) ∧ Below w.heap.size w w' := by
  have HQ : Hid (∀ w : World, Calls Tryz.prog 145 #[Wd 64 s, .int .i64 sub, .int .i64 a, .int .i64 (Go.bits .and .i64 b 63)] w fun e w' => e = .returned (.tuple #[.int .i64 r, .bool true]) ∧ Below w.heap.size w w') := by
    rw [and63]; exact Lib.hid hq
  clear hq
  rcases hs with ⟨rfl, rfl⟩ | ⟨rfl, rfl⟩ | ⟨rfl, rfl⟩
  all_goals
    go_enter Tryz.func118, Tryz.ntmps118
    go_wp2_with fail
    refine (HQ.out _).mono ?_
    rintro e w4 ⟨rfl, hbw4⟩
    obtain ⟨hcw4, hfw4⟩ := bcell hbw4
    go_wp2_with fail
    go_ret2
    exact ⟨rfl, by (repeat' (first | with_reducible assumption | with_reducible exact Below.refl _ _ | (with_reducible refine below_drewN ?_ _) | (with_reducible refine Below.drew ?_) | (with_reducible refine balloc ?_ _) | (with_reducible refine Below.setCell ?_ (by first | exact Nat.le_refl _ | (simp; done) | omega | (simp; omega)) _) | (with_reducible refine bstep ?_ (by with_reducible assumption))))⟩
/-- Plain at the sums' operations. -/
theorem plain_sum (sub : Int) (hs : sub = 1 ∨ sub = 2 ∨ sub = 3 ∨ sub = 8 ∨ sub = 9 ∨ sub = 10 ∨ sub = 11 ∨ sub = 12 ∨ sub = 13) (a b : Int) (ha : In64 a) (hb : In64 b) (w : World) :
    Calls Tryz.prog 118 #[.int .i64 sub, .int .i64 a, .int .i64 b] w fun e w' => e = .returned (.tuple #[.int .i64 (plain sub a b), .bool true]) ∧ Below w.heap.size w w' := by
  rcases hs with rfl | rfl | rfl | rfl | rfl | rfl | rfl | rfl | rfl
  · exact plain_low 1 _ (by omega) true a b (fun w => bin_sum 1 _ a b ha hb (.inl ⟨rfl, rfl⟩) w) w
  · exact plain_low 2 _ (by omega) true a b (fun w => bin_sum 2 _ a b ha hb (.inr (.inl ⟨rfl, rfl⟩)) w) w
  · exact plain_low 3 _ (by omega) true a b (fun w => bin_sum 3 _ a b ha hb (.inr (.inr ⟨rfl, rfl⟩)) w) w
  · exact plain_low 8 _ (by omega) true a b (fun w => bin_bits 8 _ a b ha hb (.inl ⟨rfl, rfl⟩) w) w
  · exact plain_low 9 _ (by omega) true a b (fun w => bin_bits 9 _ a b ha hb (.inr (.inl ⟨rfl, rfl⟩)) w) w
  · exact plain_low 10 _ (by omega) true a b (fun w => bin_bits 10 _ a b ha hb (.inr (.inr ⟨rfl, rfl⟩)) w) w
  · exact plain_shift 11 _ false (by simp) a b (fun w => bin_shl a _ ha (mod64 b).1 (mod64 b).2 w) w
  · exact plain_shift 12 _ false (by simp) a b (fun w => bin_shr a _ ha (mod64 b).1 (mod64 b).2 w) w
  · exact plain_shift 13 _ true (by simp) a b (fun w => bin_sar a _ ha (mod64 b).1 (mod64 b).2 w) w
/-- Plain at the divisions: by 0, or an answer that has no place. -/
theorem plain_none (sub : Int) (hs : sub = 4 ∨ sub = 5 ∨ sub = 6 ∨ sub = 7) (a d : Int) (ha : In64 a) (hd : In64 d) (h : d = 0 ∨ (sub = 4 ∨ sub = 5) ∧ d = -1 ∧ a = -9223372036854775808) (w : World) :
    Calls Tryz.prog 118 #[.int .i64 sub, .int .i64 a, .int .i64 d] w fun e w' => e = .returned (.tuple #[.int .i64 0, .bool false]) ∧ Below w.heap.size w w' := by
  by_cases h4 : sub = 4 ∨ sub = 5
  · refine plain_div sub 0 h4 false a d (fun w => bin_quo true sub (by omega) 0 false a d ha hd (fun w => ?_) w) w
    rcases h with rfl | ⟨_, rfl, rfl⟩
    · exact quo_zero true sub (by omega) a w
    · exact quo_least sub h4 w
  · refine plain_low sub 0 (by omega) false a d (fun w => bin_quo false sub (by omega) 0 false a d ha hd (fun w => ?_) w) w
    rcases h with rfl | ⟨h, _, _⟩
    · exact quo_zero false sub (by omega) a w
    · exact absurd h h4
theorem plain_quo (sub : Int) (hs : sub = 4 ∨ sub = 5) (a d : Int) (ha : In64 a) (hd : In64 d) (h0 : ¬ d = 0) (h1 : ¬ (d = -1 ∧ a = -9223372036854775808)) (w : World) :
    Calls Tryz.prog 118 #[.int .i64 sub, .int .i64 a, .int .i64 d] w fun e w' => e = .returned (.tuple #[.int .i64 (if sub = 4 then a.tdiv d else a.tmod d), .bool true]) ∧ Below w.heap.size w w' := by
  refine plain_div sub _ hs true a d (fun w => bin_quo true sub (by omega) _ true a d ha hd (fun w => ?_) w) w
  refine quo_signed sub _ a d ?_ ha h0 h1 w
  rcases hs with rfl | rfl
  · exact .inl ⟨rfl, rfl⟩
  · exact .inr ⟨rfl, rfl⟩
theorem plain_uquo (sub : Int) (hs : sub = 6 ∨ sub = 7) (a d : Int) (ha : In64 a) (hd : In64 d) (h0 : ¬ d = 0) (w : World) :
    Calls Tryz.prog 118 #[.int .i64 sub, .int .i64 a, .int .i64 d] w fun e w' => e = .returned (.tuple #[.int .i64 (if sub = 6 then wrap64 (u64 a / u64 d) else wrap64 (u64 a % u64 d)), .bool true]) ∧ Below w.heap.size w w' := by
  refine plain_low sub _ (by omega) true a d (fun w => bin_quo false sub (by omega) _ true a d ha hd (fun w => ?_) w) w
  refine quo_unsigned sub _ a d ?_ h0 hd w
  rcases hs with rfl | rfl
  · exact .inl ⟨rfl, rfl⟩
  · exact .inr ⟨rfl, rfl⟩
end Go.Proofs.YtfkfdffhajokkaaGreatDoor
