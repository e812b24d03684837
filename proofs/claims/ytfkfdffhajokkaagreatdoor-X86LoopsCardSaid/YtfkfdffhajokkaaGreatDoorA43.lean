/- What the statement X86Loops answers; conditions: the library's variables and the table of forms as they begin. -/
import Derived.Test.YtfkfdffhajokkaaGreatDoorA40
import Derived.Test.YtfkfdffhajokkaaGreatDoorA42
namespace Go.Proofs.YtfkfdffhajokkaaGreatDoor
open Go.RowKit X Pl
set_option linter.unusedSimpArgs false
theorem field43 (w : World) (a b : Int) (v : Value) : (Instr.field 43 (.agg #[.int .i64 a, .int .i64 b, v]) 0).run Tryz.prog w = .ok (.int .i64 a) w := by kernel_rfl
set_option maxHeartbeats 4000000 in
set_option maxRecDepth 100000 in
theorem Loops_any (x : Int) (call : Bool) (w : World) (E : Env w) (F : FormsAt w) :
    Calls Tryz.prog 6 #[.int .i64 x, .bool call] w fun e w' => e = .returned (.bool true) ∧ Below w.heap.size w w' := by
  have hk := low_range x 200 (by decide)
  have HLk := fun w => Lib.hid (Low_any x 200 (by decide) (by decide) w)
  obtain ⟨k, hkk⟩ : ∃ k : Nat, low x 200 = k := ⟨(low x 200).toNat, by omega⟩
  rw [hkk] at hk
  simp only [hkk] at HLk
  have hk2 : (k : Int) < 200 := hk.2
  clear hk hkk
  obtain ⟨n, hn⟩ : ∃ n : Nat, k + 1 = n := ⟨_, rfl⟩
  have hnI : 1 + (k : Int) = n := by omega
  have hn1 : 1 ≤ n := by omega
  have hn2 : n ≤ 200 := by omega
  obtain ⟨A, hA⟩ : ∃ A, Lib.itoa (n : Int) = A := ⟨_, rfl⟩
  have h64 : In64 (n : Int) := by unfold In64; omega
  have la := itoa_len h64
  rw [hA] at la
  have HD := fun w => Lib.hid (decimal_any (n : Int) h64 w)
  simp only [hA] at HD
  have l1 : ¬ 9223372036854775807 < 21 + A.length := by omega
  have l2 : ¬ 9223372036854775807 < 21 + A.length + 36 := by omega
  have l3 : ¬ 9223372036854775807 < 21 + A.length + 36 + 15 := by omega
  have l4 : ¬ 9223372036854775807 < 21 + A.length + 36 + 10 := by omega
  have l5 : ¬ 9223372036854775807 < 21 + A.length + 36 + 15 + 133 := by omega
  have l6 : ¬ 9223372036854775807 < 21 + A.length + 36 + 10 + 133 := by omega
  have hw2 : IntKind.i64.wrap (5 * (n : Int)) = 5 * n := by rw [IntKind.wrap_i64]; omega
  have hw3 : IntKind.i64.wrap (1 + 5 * (n : Int)) = 1 + 5 * n := by rw [IntKind.wrap_i64]; omega
  have hw4 : IntKind.i64.wrap (1 + 5 * (n : Int) + 3) = 1 + 5 * n + 3 := by rw [IntKind.wrap_i64]; omega
  have hw5 : IntKind.i64.wrap (2 * (n : Int)) = 2 * n := by rw [IntKind.wrap_i64]; omega
  have hw6 : IntKind.i64.wrap (1 + 5 * (n : Int) + 3 + 2 * n) = 1 + 5 * n + 3 + 2 * n := by rw [IntKind.wrap_i64]; omega
  have hw1 : IntKind.i64.wrap (n : Int) = n := by rw [IntKind.wrap_i64]; omega
  have hT0 : loopText n false = ([46, 100, 97, 116, 97, 32, 118, 32, 49, 54, 10, 46, 113, 117, 97, 100, 32, 118, 32, 56, 32] : Str) ++ A ++ ([10, 109, 97, 105, 110, 58, 10, 9, 109, 111, 118, 113, 9, 118, 43, 56, 40, 37, 114, 105, 112, 41, 44, 32, 37, 114, 99, 120, 10, 97, 103, 97, 105, 110, 58, 10] : Str) ++ ([9, 97, 100, 100, 113, 9, 36, 51, 44, 32, 37, 114, 98, 120, 10] : Str) ++ ([9, 115, 117, 98, 113, 9, 36, 49, 44, 32, 37, 114, 99, 120, 10, 9, 109, 111, 118, 113, 9, 37, 114, 99, 120, 44, 32, 118, 43, 56, 40, 37, 114, 105, 112, 41, 10, 9, 99, 109, 112, 113, 9, 36, 48, 44, 32, 37, 114, 99, 120, 10, 9, 106, 110, 101, 9, 97, 103, 97, 105, 110, 10, 9, 109, 111, 118, 113, 9, 37, 114, 98, 120, 44, 32, 118, 40, 37, 114, 105, 112, 41, 10, 9, 109, 111, 118, 113, 9, 118, 40, 37, 114, 105, 112, 41, 44, 32, 37, 114, 97, 120, 10, 9, 114, 101, 116, 10, 97, 100, 100, 58, 10, 9, 97, 100, 100, 113, 9, 36, 51, 44, 32, 37, 114, 98, 120, 10, 9, 114, 101, 116, 10] : Str) := by rw [← hA]; rfl
  have hT1 : loopText n true = ([46, 100, 97, 116, 97, 32, 118, 32, 49, 54, 10, 46, 113, 117, 97, 100, 32, 118, 32, 56, 32] : Str) ++ A ++ ([10, 109, 97, 105, 110, 58, 10, 9, 109, 111, 118, 113, 9, 118, 43, 56, 40, 37, 114, 105, 112, 41, 44, 32, 37, 114, 99, 120, 10, 97, 103, 97, 105, 110, 58, 10] : Str) ++ ([9, 99, 97, 108, 108, 9, 97, 100, 100, 10] : Str) ++ ([9, 115, 117, 98, 113, 9, 36, 49, 44, 32, 37, 114, 99, 120, 10, 9, 109, 111, 118, 113, 9, 37, 114, 99, 120, 44, 32, 118, 43, 56, 40, 37, 114, 105, 112, 41, 10, 9, 99, 109, 112, 113, 9, 36, 48, 44, 32, 37, 114, 99, 120, 10, 9, 106, 110, 101, 9, 97, 103, 97, 105, 110, 10, 9, 109, 111, 118, 113, 9, 37, 114, 98, 120, 44, 32, 118, 40, 37, 114, 105, 112, 41, 10, 9, 109, 111, 118, 113, 9, 118, 40, 37, 114, 105, 112, 41, 44, 32, 37, 114, 97, 120, 10, 9, 114, 101, 116, 10, 97, 100, 100, 58, 10, 9, 97, 100, 100, 113, 9, 36, 51, 44, 32, 37, 114, 98, 120, 10, 9, 114, 101, 116, 10] : Str) := by rw [← hA]; rfl
  replace hT0 := Lib.hid hT0
  replace hT1 := Lib.hid hT1
  have hq0 : (⟨#[46, 100, 97, 116, 97, 32, 118, 32, 49, 54, 10, 46, 113, 117, 97, 100, 32, 118, 32, 56, 32]⟩ : ByteArray) ++ St A ++ (⟨#[10, 109, 97, 105, 110, 58, 10, 9, 109, 111, 118, 113, 9, 118, 43, 56, 40, 37, 114, 105, 112, 41, 44, 32, 37, 114, 99, 120, 10, 97, 103, 97, 105, 110, 58, 10]⟩ : ByteArray) ++ (⟨#[9, 97, 100, 100, 113, 9, 36, 51, 44, 32, 37, 114, 98, 120, 10]⟩ : ByteArray) ++ (⟨#[9, 115, 117, 98, 113, 9, 36, 49, 44, 32, 37, 114, 99, 120, 10, 9, 109, 111, 118, 113, 9, 37, 114, 99, 120, 44, 32, 118, 43, 56, 40, 37, 114, 105, 112, 41, 10, 9, 99, 109, 112, 113, 9, 36, 48, 44, 32, 37, 114, 99, 120, 10, 9, 106, 110, 101, 9, 97, 103, 97, 105, 110, 10, 9, 109, 111, 118, 113, 9, 37, 114, 98, 120, 44, 32, 118, 40, 37, 114, 105, 112, 41, 10, 9, 109, 111, 118, 113, 9, 118, 40, 37, 114, 105, 112, 41, 44, 32, 37, 114, 97, 120, 10, 9, 114, 101, 116, 10, 97, 100, 100, 58, 10, 9, 97, 100, 100, 113, 9, 36, 51, 44, 32, 37, 114, 98, 120, 10, 9, 114, 101, 116, 10]⟩ : ByteArray) = St (loopText n false) := by
    rw [hT0.out]
    simp only [← St_app]
  have hq1 : (⟨#[46, 100, 97, 116, 97, 32, 118, 32, 49, 54, 10, 46, 113, 117, 97, 100, 32, 118, 32, 56, 32]⟩ : ByteArray) ++ St A ++ (⟨#[10, 109, 97, 105, 110, 58, 10, 9, 109, 111, 118, 113, 9, 118, 43, 56, 40, 37, 114, 105, 112, 41, 44, 32, 37, 114, 99, 120, 10, 97, 103, 97, 105, 110, 58, 10]⟩ : ByteArray) ++ (⟨#[9, 99, 97, 108, 108, 9, 97, 100, 100, 10]⟩ : ByteArray) ++ (⟨#[9, 115, 117, 98, 113, 9, 36, 49, 44, 32, 37, 114, 99, 120, 10, 9, 109, 111, 118, 113, 9, 37, 114, 99, 120, 44, 32, 118, 43, 56, 40, 37, 114, 105, 112, 41, 10, 9, 99, 109, 112, 113, 9, 36, 48, 44, 32, 37, 114, 99, 120, 10, 9, 106, 110, 101, 9, 97, 103, 97, 105, 110, 10, 9, 109, 111, 118, 113, 9, 37, 114, 98, 120, 44, 32, 118, 40, 37, 114, 105, 112, 41, 10, 9, 109, 111, 118, 113, 9, 118, 40, 37, 114, 105, 112, 41, 44, 32, 37, 114, 97, 120, 10, 9, 114, 101, 116, 10, 97, 100, 100, 58, 10, 9, 97, 100, 100, 113, 9, 36, 51, 44, 32, 37, 114, 98, 120, 10, 9, 114, 101, 116, 10]⟩ : ByteArray) = St (loopText n true) := by
    rw [hT1.out]
    simp only [← St_app]
  replace hq0 := Lib.hid hq0
  replace hq1 := Lib.hid hq1
  have hTl : (loopText n call).length ≤ 400 := by
    cases call
    · rw [hT0.out]; simp only [List.length_append, List.length_cons, List.length_nil]; omega
    · rw [hT1.out]; simp only [List.length_append, List.length_cons, List.length_nil]; omega
  have hTs : (St (loopText n call)).size ≤ 1048575 := by rw [St_size]; omega
  have hRD := loop_read n hn1 hn2 call
  have HRd := fun w E F => Lib.hid (Read_any (St (loopText n call)) hTs w E F)
  simp only [bl_St, hRD] at HRd
  have ok := Lib.hid (read_code (s := loopText n call) (by omega) hRD)
  obtain ⟨⟨m1, r1, k1, c1, o1⟩, m2, r2, k2⟩ := loops_run n hn1 hn2 call
  obtain ⟨fu, hfu⟩ : ∃ fu, 1 + n * (addSteps call + 4) + 3 = fu := ⟨_, rfl⟩
  obtain ⟨fv, hfv⟩ : ∃ fv, 1 + n * (addSteps call + 4) + 2 = fv := ⟨_, rfl⟩
  rw [hfu] at r1
  rw [hfv] at r2
  have hfl : fu ≤ 2000 ∧ fv + 1 = fu := by cases call <;> simp [addSteps] at hfu hfv <;> omega
  have HR1 := fun w B p hC E => Lib.hid (Run_any w B p _ _ hC ok.out E none 0 [] (InAt.nil w) fu 64 (by omega) (by decide) (by decide) (by decide) (by decide))
  have HR2 := fun w B p hC E => Lib.hid (Run_any w B p _ _ hC ok.out E none 0 [] (InAt.nil w) fv 64 (by omega) (by decide) (by decide) (by decide) (by decide))
  simp only [r1, k1, c1, o1] at HR1
  simp only [r2, k2] at HR2
  have HPr := fun w B p h => Lib.hid (Print_any w B p (loopCode n call) h)
  have HR : ∀ (w : World) (B p : Nat) (hC : CodeAt w B p (loopCode n call)) (E : Env w) (f : Nat) (hf : f = fu ∨ f = fv), Hid (Calls Tryz.prog 15 #[.pointer (some ⟨p, 0, none⟩), .slice none 0 0, .int .i64 f, .int .i64 64] w fun e w' => ∃ vo kd cd, e = .returned (.agg #[.int .i64 kd, .int .i64 cd, vo]) ∧ (f = fu → kd = 1 ∧ cd = Go.bits .and .i64 (3 * (n : Int)) 255 ∧ InAt w' vo []) ∧ (f = fv → kd = 3) ∧ Below w.heap.size w w') := by
    intro w B p hC E f hf
    rcases hf with rfl | rfl
    · refine Lib.hid ((HR1 w B p hC E).out.mono ?_)
      rintro e w' ⟨vo, rfl, O, b⟩
      exact ⟨vo, _, _, rfl, fun _ => ⟨rfl, rfl, InAt.of_row O⟩, fun h => absurd h (by omega), b⟩
    · refine Lib.hid ((HR2 w B p hC E).out.mono ?_)
      rintro e w' ⟨vo, rfl, O, b⟩
      exact ⟨vo, _, _, rfl, fun h => absurd h (by omega), fun _ => rfl, b⟩
  clear HR1 HR2
  have hfw : (fu : Int) - 1 = (fv : Int) := by omega
  have hwf : IntKind.i64.wrap (fu : Int) = fu := by rw [IntKind.wrap_i64]; omega
  have hwv : IntKind.i64.wrap (fv : Int) = fv := by rw [IntKind.wrap_i64]; omega
  clear hT0 hT1 hRD hTs hTl r1 k1 c1 o1 r2 k2
  cases call
  · have hfI : 1 + 5 * (n : Int) + 3 = (fu : Int) := by simp [addSteps] at hfu; omega
    clear hw6 hw4 hfu hfv
    go_enter Tryz.func6, Tryz.ntmps6
    go_wp2_with fail
    refine ((HLk _).out).mono ?_
    rintro e w1 ⟨rfl, hw1'⟩
    obtain rfl := hw1'.symm
    go_wp2_with fail
    refine ((HD _).out).mono ?_
    rintro e w2 ⟨rfl, b2⟩
    have E1 := E.below b2
    have F1 := F.below b2
    clear HD HLk
    go_wp2_with fail
    rw [hq0.out]
    refine ((HRd _ E1 F1).out).mono ?_
    rintro e w3 ⟨p, rfl, hC, b3⟩
    have B3 := bstep b2 b3
    have X3 := Bx.new (w := w3) (c := #[.int .i64 0, .int .i64 0]) (T := 38)
    have b4 := balloc (Below.refl _ w3) (.cells #[.int .i64 0, .int .i64 0] 38)
    have hx3 := X3.cell
    have C3 := hC.below b4
    have B4 := bstep B3 b4
    have E4 := E.below B4
    go_wp2_with fail
    have X5 := Bx.new (w := w3.alloc (.cells #[.int .i64 0, .int .i64 0] 38)) (c := #[.int .i64 1, .int .i64 (Go.bits .and .i64 (3 * (n : Int)) 255), .slice none 0 0]) (T := 43)
    rw [World.size_alloc] at X5
    have hx5 := X5.cell
    have b5 := balloc (Below.refl _ (w3.alloc (.cells #[.int .i64 0, .int .i64 0] 38))) (.cells #[.int .i64 1, .int .i64 (Go.bits .and .i64 (3 * (n : Int)) 255), .slice none 0 0] 43)
    have C5 := C3.below b5
    have E5 := E4.below b5
    have B5 := bstep B4 b5
    generalize (w3.alloc (.cells #[.int .i64 0, .int .i64 0] 38)).alloc (.cells #[.int .i64 1, .int .i64 (Go.bits .and .i64 (3 * (n : Int)) 255), .slice none 0 0] 43) = wg at *
    generalize Go.bits .and .i64 (3 * (n : Int)) 255 = cc at *
    clear hx3 X3 C3 E4 b4 b5 B3 B4 hC b3 HRd E1 F1 b2
    have C6 := C5.below (Below.drew (Below.refl _ wg))
    have E6 := E5.below (Below.drew (Below.refl _ wg))
    have F6 := F.below (B5.drew)
    have X6 := X5.drew
    have hx6 := X6.cell
    have B6 := B5.drew
    have HSm := fun w va ha => Lib.hid (SameOutcome_any w 1 cc 1 cc va (.slice none 0 0) [] [] ha (InAt.nil w) (by decide) (by decide))
    have hsm : ((1 : Int) == 1 && cc == cc && ([] : List UInt8) == []) = true := by simp
    simp only [hsm] at HSm
    have HAw := fun w E F => Lib.hid (awake_any w E F)
    clear hx5 hsm
    have Ix := InAt.nil wg.drew
    have hF43 := field43
    go_region_with (first
      | (go_at_call 15; refine ((HR _ _ _ C6 E6 _ ?_).out).mono ?_; (first | exact .inl rfl | exact .inr rfl); rintro e wa ⟨va, kd, cd, rfl, h1, h2, ba⟩; (first | (obtain ⟨rfl, rfl, Iy⟩ := h1 rfl; replace Ix := Iy) | (obtain rfl := h2 rfl)); clear h1 h2; replace C6 := C6.below ba; replace E6 := E6.below ba; replace B6 := bstep B6 ba; replace X6 := X6.below ba; replace hx6 := X6.cell; clear ba)
      | (go_at_call 14; refine ((HSm _ _ Ix).out).mono ?_; rintro e wb ⟨rfl, bb⟩; replace C6 := C6.below bb; replace E6 := E6.below bb; replace B6 := bstep B6 bb; replace X6 := X6.below bb; replace hx6 := X6.cell; replace Ix := InAt.nil wb; clear bb)
      | (go_at_call 17; refine ((HPr _ _ _ C6).out).mono ?_; rintro e wf ⟨rfl, bf⟩; replace E6 := E6.below bf; replace B6 := bstep B6 bf; replace F6 := F.below B6; clear bf)
      | (go_at_call 7; refine ((HAw _ E6 F6).out).mono ?_; rintro e wh ⟨rfl, bh⟩; replace B6 := bstep B6 bh))
    all_goals
      go_wp2_with fail
      go_ret
      exact ⟨rfl, B6⟩
  · have hfI : 1 + 5 * (n : Int) + 3 + 2 * n = (fu : Int) := by simp [addSteps] at hfu; omega
    clear hfu hfv
    go_enter Tryz.func6, Tryz.ntmps6
    go_wp2_with fail
    refine ((HLk _).out).mono ?_
    rintro e w1 ⟨rfl, hw1'⟩
    obtain rfl := hw1'.symm
    go_wp2_with fail
    refine ((HD _).out).mono ?_
    rintro e w2 ⟨rfl, b2⟩
    have E1 := E.below b2
    have F1 := F.below b2
    clear HD HLk
    go_wp2_with fail
    rw [hq1.out]
    refine ((HRd _ E1 F1).out).mono ?_
    rintro e w3 ⟨p, rfl, hC, b3⟩
    have B3 := bstep b2 b3
    have X3 := Bx.new (w := w3) (c := #[.int .i64 0, .int .i64 0]) (T := 38)
    have b4 := balloc (Below.refl _ w3) (.cells #[.int .i64 0, .int .i64 0] 38)
    have hx3 := X3.cell
    have C3 := hC.below b4
    have B4 := bstep B3 b4
    have E4 := E.below B4
    go_wp2_with fail
    have X5 := Bx.new (w := w3.alloc (.cells #[.int .i64 0, .int .i64 0] 38)) (c := #[.int .i64 1, .int .i64 (Go.bits .and .i64 (3 * (n : Int)) 255), .slice none 0 0]) (T := 43)
    rw [World.size_alloc] at X5
    have hx5 := X5.cell
    have b5 := balloc (Below.refl _ (w3.alloc (.cells #[.int .i64 0, .int .i64 0] 38))) (.cells #[.int .i64 1, .int .i64 (Go.bits .and .i64 (3 * (n : Int)) 255), .slice none 0 0] 43)
    have C5 := C3.below b5
    have E5 := E4.below b5
    have B5 := bstep B4 b5
    generalize (w3.alloc (.cells #[.int .i64 0, .int .i64 0] 38)).alloc (.cells #[.int .i64 1, .int .i64 (Go.bits .and .i64 (3 * (n : Int)) 255), .slice none 0 0] 43) = wg at *
    generalize Go.bits .and .i64 (3 * (n : Int)) 255 = cc at *
    clear hx3 X3 C3 E4 b4 b5 B3 B4 hC b3 HRd E1 F1 b2
    have C6 := C5.below (Below.drew (Below.refl _ wg))
    have E6 := E5.below (Below.drew (Below.refl _ wg))
    have F6 := F.below (B5.drew)
    have X6 := X5.drew
    have hx6 := X6.cell
    have B6 := B5.drew
    have HSm := fun w va ha => Lib.hid (SameOutcome_any w 1 cc 1 cc va (.slice none 0 0) [] [] ha (InAt.nil w) (by decide) (by decide))
    have hsm : ((1 : Int) == 1 && cc == cc && ([] : List UInt8) == []) = true := by simp
    simp only [hsm] at HSm
    have HAw := fun w E F => Lib.hid (awake_any w E F)
    clear hx5 hsm
    have Ix := InAt.nil wg.drew
    have hF43 := field43
    go_region_with (first
      | (go_at_call 15; refine ((HR _ _ _ C6 E6 _ ?_).out).mono ?_; (first | exact .inl rfl | exact .inr rfl); rintro e wa ⟨va, kd, cd, rfl, h1, h2, ba⟩; (first | (obtain ⟨rfl, rfl, Iy⟩ := h1 rfl; replace Ix := Iy) | (obtain rfl := h2 rfl)); clear h1 h2; replace C6 := C6.below ba; replace E6 := E6.below ba; replace B6 := bstep B6 ba; replace X6 := X6.below ba; replace hx6 := X6.cell; clear ba)
      | (go_at_call 14; refine ((HSm _ _ Ix).out).mono ?_; rintro e wb ⟨rfl, bb⟩; replace C6 := C6.below bb; replace E6 := E6.below bb; replace B6 := bstep B6 bb; replace X6 := X6.below bb; replace hx6 := X6.cell; replace Ix := InAt.nil wb; clear bb)
      | (go_at_call 17; refine ((HPr _ _ _ C6).out).mono ?_; rintro e wf ⟨rfl, bf⟩; replace E6 := E6.below bf; replace B6 := bstep B6 bf; replace F6 := F.below B6; clear bf)
      | (go_at_call 7; refine ((HAw _ E6 F6).out).mono ?_; rintro e wh ⟨rfl, bh⟩; replace B6 := bstep B6 bh))
    all_goals
      go_wp2_with fail
      go_ret
      exact ⟨rfl, B6⟩
end Go.Proofs.YtfkfdffhajokkaaGreatDoor
