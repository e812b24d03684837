/- What the functions of package x86 that look at names and numbers answer; conditions: a text shorter than 2^32 less 15 bytes, the library's variables as they begin. -/
import Derived.Test.YtfkfdffhajokkaaGreatDoorA04
import Derived.Test.YtfkfdffhajokkaaGreatDoorA03
import Derived.Lib.AtoiErrMem
import Derived.Lib.ParseIntBCases
namespace Go.Proofs.YtfkfdffhajokkaaGreatDoor
open Go.RowKit X
abbrev bl (s : ByteArray) : Str := s.data.toList
theorem bl_len (s : ByteArray) : (bl s).length = s.size := rfl
theorem drop_at (s : ByteArray) (k : Nat) (h : k < s.size) : (bl s).drop k = s[k] :: (bl s).drop (k + 1) := by
  rw [List.drop_eq_getElem_cons (by rw [bl_len]; exact h)]; rfl
theorem goodChars_cons (f : Bool) (c : UInt8) (r : Str) : goodChars f (c :: r) = (goodChar f c && goodChars false r) := rfl
theorem isEmpty_of_size (s : ByteArray) (h : s.size = 0) : (bl s).isEmpty = true := by
  rw [List.isEmpty_iff_length_eq_zero, bl_len]; exact h
theorem not_isEmpty_of_size (s : ByteArray) (h : ¬ s.size = 0) : (bl s).isEmpty = false := by
  rw [Bool.eq_false_iff, ne_eq, List.isEmpty_iff_length_eq_zero, bl_len]; exact h
theorem ret_bool {a b : Bool} (h : a = b) : Ending.returned (.bool a) = .returned (.bool b) := by rw [h]
theorem goodChar_eq (f : Bool) (c : UInt8) : goodChar f c = decide (c.toNat = 95 ∨ c.toNat = 46 ∨ (f = false ∧ 48 ≤ c.toNat ∧ c.toNat ≤ 57) ∨ (97 ≤ c.toNat ∧ c.toNat ≤ 122) ∨ (65 ≤ c.toNat ∧ c.toNat ≤ 90)) := by
  have q95 : (c == 95) = decide (c.toNat = 95) := by rw [Bool.eq_iff_iff]; simp [← UInt8.toNat_inj]
  have q46 : (c == 46) = decide (c.toNat = 46) := by rw [Bool.eq_iff_iff]; simp [← UInt8.toNat_inj]
  unfold goodChar
  rw [q95, q46, Bool.eq_iff_iff]
  simp [UInt8.le_iff_toNat_le]
  cases f <;> simp <;> omega
theorem named_stop (s : ByteArray) (k : Nat) (b : Bool) (hg : goodChars true (bl s) = goodChars b ((bl s).drop k)) (h : k < s.size) (hc : goodChar b s[k] = false) : named (bl s) = false := by
  unfold named
  rw [hg, drop_at s k h, goodChars_cons, hc]; rfl
theorem named_go (s : ByteArray) (k : Nat) (b : Bool) (hg : goodChars true (bl s) = goodChars b ((bl s).drop k)) (h : k < s.size) (hc : goodChar b s[k] = true) :
    goodChars true (bl s) = goodChars (k + 1 == 0) ((bl s).drop (k + 1)) := by
  rw [hg, drop_at s k h, goodChars_cons, hc]; rfl
theorem named_end (s : ByteArray) (k : Nat) (b : Bool) (hg : goodChars true (bl s) = goodChars b ((bl s).drop k)) (h : ¬ k < s.size) : named (bl s) = (!(bl s).isEmpty && decide (s.size ≤ 60)) := by
  unfold named
  rw [hg, List.drop_eq_nil_of_le (by rw [bl_len]; omega), bl_len]; rfl
set_option maxHeartbeats 4000000 in
set_option maxRecDepth 100000 in
theorem named_any (s : ByteArray) (hs : s.size < 4294967281) (w : World) :
    Calls Tryz.prog 51 #[.string s] w fun e w' => e = .returned (.bool (named (bl s))) ∧ w = w' := by
  go_enter Tryz.func51, Tryz.ntmps51
  go_wp2
  go_loop [7] (fun i => ∃ k : Nat, k ≤ s.size ∧ i = .int .i64 k ∧ Hid (goodChars true (bl s) = goodChars (k == 0) ((bl s).drop k))) (fun i => s.size - (intOf i).toNat)
  case atStart => exact ⟨0, Nat.zero_le _, rfl, rfl⟩
  case round =>
    obtain ⟨k, hk, rfl, hg⟩ := hrel
    by_cases hlt : k < s.size
    · have hd := Lib.hid (drop_at s k hlt)
      have hb : s[k].toNat < 256 := s[k].toNat_lt
      rcases (by omega : (0 ≤ s[k].toNat ∧ s[k].toNat ≤ 45) ∨ (46 ≤ s[k].toNat ∧ s[k].toNat ≤ 46) ∨ (47 ≤ s[k].toNat ∧ s[k].toNat ≤ 47) ∨ (48 ≤ s[k].toNat ∧ s[k].toNat ≤ 57) ∨ (58 ≤ s[k].toNat ∧ s[k].toNat ≤ 64) ∨ (65 ≤ s[k].toNat ∧ s[k].toNat ≤ 90) ∨ (91 ≤ s[k].toNat ∧ s[k].toNat ≤ 94) ∨ (95 ≤ s[k].toNat ∧ s[k].toNat ≤ 95) ∨ (96 ≤ s[k].toNat ∧ s[k].toNat ≤ 96) ∨ (97 ≤ s[k].toNat ∧ s[k].toNat ≤ 122) ∨ (123 ≤ s[k].toNat ∧ s[k].toNat ≤ 255)) with ⟨c0, c1⟩ | ⟨c0, c1⟩ | ⟨c0, c1⟩ | ⟨c0, c1⟩ | ⟨c0, c1⟩ | ⟨c0, c1⟩ | ⟨c0, c1⟩ | ⟨c0, c1⟩ | ⟨c0, c1⟩ | ⟨c0, c1⟩ | ⟨c0, c1⟩
      · have e95 : ((s[k].toNat : Int) == 95) = false := beq_eq_false_iff_ne.2 (by omega)
        have n95 : ((s[k].toNat : Int) != 95) = true := bne_iff_ne.2 (by omega)
        have e46 : ((s[k].toNat : Int) == 46) = false := beq_eq_false_iff_ne.2 (by omega)
        have n46 : ((s[k].toNat : Int) != 46) = true := bne_iff_ne.2 (by omega)
        have l48 : decide ((s[k].toNat : Int) < 48) = true := decide_eq_true (by omega)
        have l97 : decide ((s[k].toNat : Int) < 97) = true := decide_eq_true (by omega)
        have l65 : decide ((s[k].toNat : Int) < 65) = true := decide_eq_true (by omega)
        have g57 : decide (57 < (s[k].toNat : Int)) = false := decide_eq_false (by omega)
        have g122 : decide (122 < (s[k].toNat : Int)) = false := decide_eq_false (by omega)
        have g90 : decide (90 < (s[k].toNat : Int)) = false := decide_eq_false (by omega)
        have hn := Lib.hid (named_stop s k _ hg.out hlt (by rw [goodChar_eq]; simp only [decide_eq_false_iff_not]; omega))
        clear c0 c1 hb hg hd
        go_wp2
        go_ret
        exact ⟨ret_bool hn.out.symm, rfl⟩
      · have e95 : ((s[k].toNat : Int) == 95) = false := beq_eq_false_iff_ne.2 (by omega)
        have n95 : ((s[k].toNat : Int) != 95) = true := bne_iff_ne.2 (by omega)
        have e46 : ((s[k].toNat : Int) == 46) = true := beq_iff_eq.2 (by omega)
        have n46 : ((s[k].toNat : Int) != 46) = false := bne_eq_false_iff_eq.2 (by omega)
        have l48 : decide ((s[k].toNat : Int) < 48) = true := decide_eq_true (by omega)
        have l97 : decide ((s[k].toNat : Int) < 97) = true := decide_eq_true (by omega)
        have l65 : decide ((s[k].toNat : Int) < 65) = true := decide_eq_true (by omega)
        have g57 : decide (57 < (s[k].toNat : Int)) = false := decide_eq_false (by omega)
        have g122 : decide (122 < (s[k].toNat : Int)) = false := decide_eq_false (by omega)
        have g90 : decide (90 < (s[k].toNat : Int)) = false := decide_eq_false (by omega)
        have hn := Lib.hid (named_go s k _ hg.out hlt (by rw [goodChar_eq]; simp only [decide_eq_true_eq]; omega))
        clear c0 c1 hb hg hd
        go_wp2
        go_round
        case rel => exact ⟨k + 1, by omega, by go_num, hn⟩
        case measure => simp [intOf]; omega
      · have e95 : ((s[k].toNat : Int) == 95) = false := beq_eq_false_iff_ne.2 (by omega)
        have n95 : ((s[k].toNat : Int) != 95) = true := bne_iff_ne.2 (by omega)
        have e46 : ((s[k].toNat : Int) == 46) = false := beq_eq_false_iff_ne.2 (by omega)
        have n46 : ((s[k].toNat : Int) != 46) = true := bne_iff_ne.2 (by omega)
        have l48 : decide ((s[k].toNat : Int) < 48) = true := decide_eq_true (by omega)
        have l97 : decide ((s[k].toNat : Int) < 97) = true := decide_eq_true (by omega)
        have l65 : decide ((s[k].toNat : Int) < 65) = true := decide_eq_true (by omega)
        have g57 : decide (57 < (s[k].toNat : Int)) = false := decide_eq_false (by omega)
        have g122 : decide (122 < (s[k].toNat : Int)) = false := decide_eq_false (by omega)
        have g90 : decide (90 < (s[k].toNat : Int)) = false := decide_eq_false (by omega)
        have hn := Lib.hid (named_stop s k _ hg.out hlt (by rw [goodChar_eq]; simp only [decide_eq_false_iff_not]; omega))
        clear c0 c1 hb hg hd
        go_wp2
        go_ret
        exact ⟨ret_bool hn.out.symm, rfl⟩
      · have e95 : ((s[k].toNat : Int) == 95) = false := beq_eq_false_iff_ne.2 (by omega)
        have n95 : ((s[k].toNat : Int) != 95) = true := bne_iff_ne.2 (by omega)
        have e46 : ((s[k].toNat : Int) == 46) = false := beq_eq_false_iff_ne.2 (by omega)
        have n46 : ((s[k].toNat : Int) != 46) = true := bne_iff_ne.2 (by omega)
        have l48 : decide ((s[k].toNat : Int) < 48) = false := decide_eq_false (by omega)
        have l97 : decide ((s[k].toNat : Int) < 97) = true := decide_eq_true (by omega)
        have l65 : decide ((s[k].toNat : Int) < 65) = true := decide_eq_true (by omega)
        have g57 : decide (57 < (s[k].toNat : Int)) = false := decide_eq_false (by omega)
        have g122 : decide (122 < (s[k].toNat : Int)) = false := decide_eq_false (by omega)
        have g90 : decide (90 < (s[k].toNat : Int)) = false := decide_eq_false (by omega)
        by_cases hk0 : k = 0
        · have z0 : ((k : Int) == 0) = true := beq_iff_eq.2 (by omega)
          have hn := Lib.hid (named_stop s k _ hg.out hlt (by subst hk0; rw [goodChar_eq]; simp only [decide_eq_false_iff_not]; simp; omega))
          clear hk0 c0 c1 hb hg hd
          go_wp2
          go_ret
          exact ⟨ret_bool hn.out.symm, rfl⟩
        · have z0 : ((k : Int) == 0) = false := beq_eq_false_iff_ne.2 (by omega)
          have hn := Lib.hid (named_go s k _ hg.out hlt (by rw [goodChar_eq, show (k == 0) = false from beq_eq_false_iff_ne.2 hk0]; simp only [decide_eq_true_eq, true_and]; omega))
          clear hk0 c0 c1 hb hg hd
          go_wp2
          go_round
          case rel => exact ⟨k + 1, by omega, by go_num, hn⟩
          case measure => simp [intOf]; omega
      · have e95 : ((s[k].toNat : Int) == 95) = false := beq_eq_false_iff_ne.2 (by omega)
        have n95 : ((s[k].toNat : Int) != 95) = true := bne_iff_ne.2 (by omega)
        have e46 : ((s[k].toNat : Int) == 46) = false := beq_eq_false_iff_ne.2 (by omega)
        have n46 : ((s[k].toNat : Int) != 46) = true := bne_iff_ne.2 (by omega)
        have l48 : decide ((s[k].toNat : Int) < 48) = false := decide_eq_false (by omega)
        have l97 : decide ((s[k].toNat : Int) < 97) = true := decide_eq_true (by omega)
        have l65 : decide ((s[k].toNat : Int) < 65) = true := decide_eq_true (by omega)
        have g57 : decide (57 < (s[k].toNat : Int)) = true := decide_eq_true (by omega)
        have g122 : decide (122 < (s[k].toNat : Int)) = false := decide_eq_false (by omega)
        have g90 : decide (90 < (s[k].toNat : Int)) = false := decide_eq_false (by omega)
        have hn := Lib.hid (named_stop s k _ hg.out hlt (by rw [goodChar_eq]; simp only [decide_eq_false_iff_not]; omega))
        clear c0 c1 hb hg hd
        go_wp2
        go_ret
        exact ⟨ret_bool hn.out.symm, rfl⟩
      · have e95 : ((s[k].toNat : Int) == 95) = false := beq_eq_false_iff_ne.2 (by omega)
        have n95 : ((s[k].toNat : Int) != 95) = true := bne_iff_ne.2 (by omega)
        have e46 : ((s[k].toNat : Int) == 46) = false := beq_eq_false_iff_ne.2 (by omega)
        have n46 : ((s[k].toNat : Int) != 46) = true := bne_iff_ne.2 (by omega)
        have l48 : decide ((s[k].toNat : Int) < 48) = false := decide_eq_false (by omega)
        have l97 : decide ((s[k].toNat : Int) < 97) = true := decide_eq_true (by omega)
        have l65 : decide ((s[k].toNat : Int) < 65) = false := decide_eq_false (by omega)
        have g57 : decide (57 < (s[k].toNat : Int)) = true := decide_eq_true (by omega)
        have g122 : decide (122 < (s[k].toNat : Int)) = false := decide_eq_false (by omega)
        have g90 : decide (90 < (s[k].toNat : Int)) = false := decide_eq_false (by omega)
        have hn := Lib.hid (named_go s k _ hg.out hlt (by rw [goodChar_eq]; simp only [decide_eq_true_eq]; omega))
        clear c0 c1 hb hg hd
        go_wp2
        go_round
        case rel => exact ⟨k + 1, by omega, by go_num, hn⟩
        case measure => simp [intOf]; omega
      · have e95 : ((s[k].toNat : Int) == 95) = false := beq_eq_false_iff_ne.2 (by omega)
        have n95 : ((s[k].toNat : Int) != 95) = true := bne_iff_ne.2 (by omega)
        have e46 : ((s[k].toNat : Int) == 46) = false := beq_eq_false_iff_ne.2 (by omega)
        have n46 : ((s[k].toNat : Int) != 46) = true := bne_iff_ne.2 (by omega)
        have l48 : decide ((s[k].toNat : Int) < 48) = false := decide_eq_false (by omega)
        have l97 : decide ((s[k].toNat : Int) < 97) = true := decide_eq_true (by omega)
        have l65 : decide ((s[k].toNat : Int) < 65) = false := decide_eq_false (by omega)
        have g57 : decide (57 < (s[k].toNat : Int)) = true := decide_eq_true (by omega)
        have g122 : decide (122 < (s[k].toNat : Int)) = false := decide_eq_false (by omega)
        have g90 : decide (90 < (s[k].toNat : Int)) = true := decide_eq_true (by omega)
        have hn := Lib.hid (named_stop s k _ hg.out hlt (by rw [goodChar_eq]; simp only [decide_eq_false_iff_not]; omega))
        clear c0 c1 hb hg hd
        go_wp2
        go_ret
        exact ⟨ret_bool hn.out.symm, rfl⟩
      · have e95 : ((s[k].toNat : Int) == 95) = true := beq_iff_eq.2 (by omega)
        have n95 : ((s[k].toNat : Int) != 95) = false := bne_eq_false_iff_eq.2 (by omega)
        have e46 : ((s[k].toNat : Int) == 46) = false := beq_eq_false_iff_ne.2 (by omega)
        have n46 : ((s[k].toNat : Int) != 46) = true := bne_iff_ne.2 (by omega)
        have l48 : decide ((s[k].toNat : Int) < 48) = false := decide_eq_false (by omega)
        have l97 : decide ((s[k].toNat : Int) < 97) = true := decide_eq_true (by omega)
        have l65 : decide ((s[k].toNat : Int) < 65) = false := decide_eq_false (by omega)
        have g57 : decide (57 < (s[k].toNat : Int)) = true := decide_eq_true (by omega)
        have g122 : decide (122 < (s[k].toNat : Int)) = false := decide_eq_false (by omega)
        have g90 : decide (90 < (s[k].toNat : Int)) = true := decide_eq_true (by omega)
        have hn := Lib.hid (named_go s k _ hg.out hlt (by rw [goodChar_eq]; simp only [decide_eq_true_eq]; omega))
        clear c0 c1 hb hg hd
        go_wp2
        go_round
        case rel => exact ⟨k + 1, by omega, by go_num, hn⟩
        case measure => simp [intOf]; omega
      · have e95 : ((s[k].toNat : Int) == 95) = false := beq_eq_false_iff_ne.2 (by omega)
        have n95 : ((s[k].toNat : Int) != 95) = true := bne_iff_ne.2 (by omega)
        have e46 : ((s[k].toNat : Int) == 46) = false := beq_eq_false_iff_ne.2 (by omega)
        have n46 : ((s[k].toNat : Int) != 46) = true := bne_iff_ne.2 (by omega)
        have l48 : decide ((s[k].toNat : Int) < 48) = false := decide_eq_false (by omega)
        have l97 : decide ((s[k].toNat : Int) < 97) = true := decide_eq_true (by omega)
        have l65 : decide ((s[k].toNat : Int) < 65) = false := decide_eq_false (by omega)
        have g57 : decide (57 < (s[k].toNat : Int)) = true := decide_eq_true (by omega)
        have g122 : decide (122 < (s[k].toNat : Int)) = false := decide_eq_false (by omega)
        have g90 : decide (90 < (s[k].toNat : Int)) = true := decide_eq_true (by omega)
        have hn := Lib.hid (named_stop s k _ hg.out hlt (by rw [goodChar_eq]; simp only [decide_eq_false_iff_not]; omega))
        clear c0 c1 hb hg hd
        go_wp2
        go_ret
        exact ⟨ret_bool hn.out.symm, rfl⟩
      · have e95 : ((s[k].toNat : Int) == 95) = false := beq_eq_false_iff_ne.2 (by omega)
        have n95 : ((s[k].toNat : Int) != 95) = true := bne_iff_ne.2 (by omega)
        have e46 : ((s[k].toNat : Int) == 46) = false := beq_eq_false_iff_ne.2 (by omega)
        have n46 : ((s[k].toNat : Int) != 46) = true := bne_iff_ne.2 (by omega)
        have l48 : decide ((s[k].toNat : Int) < 48) = false := decide_eq_false (by omega)
        have l97 : decide ((s[k].toNat : Int) < 97) = false := decide_eq_false (by omega)
        have l65 : decide ((s[k].toNat : Int) < 65) = false := decide_eq_false (by omega)
        have g57 : decide (57 < (s[k].toNat : Int)) = true := decide_eq_true (by omega)
        have g122 : decide (122 < (s[k].toNat : Int)) = false := decide_eq_false (by omega)
        have g90 : decide (90 < (s[k].toNat : Int)) = true := decide_eq_true (by omega)
        have hn := Lib.hid (named_go s k _ hg.out hlt (by rw [goodChar_eq]; simp only [decide_eq_true_eq]; omega))
        clear c0 c1 hb hg hd
        go_wp2
        go_round
        case rel => exact ⟨k + 1, by omega, by go_num, hn⟩
        case measure => simp [intOf]; omega
      · have e95 : ((s[k].toNat : Int) == 95) = false := beq_eq_false_iff_ne.2 (by omega)
        have n95 : ((s[k].toNat : Int) != 95) = true := bne_iff_ne.2 (by omega)
        have e46 : ((s[k].toNat : Int) == 46) = false := beq_eq_false_iff_ne.2 (by omega)
        have n46 : ((s[k].toNat : Int) != 46) = true := bne_iff_ne.2 (by omega)
        have l48 : decide ((s[k].toNat : Int) < 48) = false := decide_eq_false (by omega)
        have l97 : decide ((s[k].toNat : Int) < 97) = false := decide_eq_false (by omega)
        have l65 : decide ((s[k].toNat : Int) < 65) = false := decide_eq_false (by omega)
        have g57 : decide (57 < (s[k].toNat : Int)) = true := decide_eq_true (by omega)
        have g122 : decide (122 < (s[k].toNat : Int)) = true := decide_eq_true (by omega)
        have g90 : decide (90 < (s[k].toNat : Int)) = true := decide_eq_true (by omega)
        have hn := Lib.hid (named_stop s k _ hg.out hlt (by rw [goodChar_eq]; simp only [decide_eq_false_iff_not]; omega))
        clear c0 c1 hb hg hd
        go_wp2
        go_ret
        exact ⟨ret_bool hn.out.symm, rfl⟩
    · have hn := Lib.hid (named_end s k _ hg.out hlt)
      clear hg
      by_cases h0 : s.size = 0
      · have e0 : s.toList.isEmpty = true := by rw [ByteArray.toList_eq]; exact isEmpty_of_size s h0
        have e1 := Lib.hid (isEmpty_of_size s h0)
        clear h0
        go_wp2
        go_ret
        exact ⟨ret_bool (by rw [hn.out, e1.out]; rfl), rfl⟩
      · have e0 : s.toList.isEmpty = false := by rw [ByteArray.toList_eq]; exact not_isEmpty_of_size s h0
        have e1 := Lib.hid (not_isEmpty_of_size s h0)
        clear h0
        go_wp2
        go_ret
        exact ⟨ret_bool (by rw [hn.out, e1.out]; simp; omega), rfl⟩
end Go.Proofs.YtfkfdffhajokkaaGreatDoor
/- What the functions of package x86 that read numbers answer; conditions: a text shorter than 2^32 less 15 bytes, the library's variables as they begin. -/
namespace Go.Proofs.YtfkfdffhajokkaaGreatDoor
open Go.RowKit X
/-- The library's variables that reading leans on. -/
structure Env (w : World) : Prop where
  maxlen : ∃ m, w.cell? ⟨1, 0, none⟩ = some (.int .i64 m)
  syn : ∃ ev, w.cell? ⟨2, 0, none⟩ = some ev ∧ (ev = .nilIface ∨ ∃ te pe, ev = .iface te pe)
  rng : ∃ ev, w.cell? ⟨3, 0, none⟩ = some ev ∧ (ev = .nilIface ∨ ∃ te pe, ev = .iface te pe)
  pow : Lib.TabIs Tryz.prog w "internal/strconv.uint64pow10" .u64 Lib.pow10Tab
  size : 9 ≤ w.heap.size
theorem Env.mono {B : Nat} {w w' : World} (h : Env w) (hb : Below B w w') (hB : 9 ≤ B) : Env w' := by
  obtain ⟨⟨m, hm⟩, ⟨e1, h1, h1'⟩, ⟨e2, h2, h2'⟩, hp, hz⟩ := h
  refine ⟨⟨m, ?_⟩, ⟨e1, ?_, h1'⟩, ⟨e2, ?_, h2'⟩, ?_, Nat.le_trans hz hb.size⟩
  · rw [hb.cell (p := ⟨1, 0, none⟩) (by simp; omega)]; exact hm
  · rw [hb.cell (p := ⟨2, 0, none⟩) (by simp; omega)]; exact h1
  · rw [hb.cell (p := ⟨3, 0, none⟩) (by simp; omega)]; exact h2
  · exact var?_below hb (g := 6) (by kernel_rfl) (by omega) hp
theorem Env.below {w w' : World} (h : Env w) (hb : Below w.heap.size w w') : Env w' := h.mono hb h.size
theorem grow_below (w : World) (os : Array Obj) : Below w.heap.size w (Go.Sort.grow w os) := by
  refine ⟨rfl, rfl, rfl, by simp [Go.Sort.grow], fun k hk => ?_⟩
  show (w.heap ++ os)[k]? = _
  rw [Array.getElem?_append_left hk]
theorem numEnd_cases {α : Type} (x : Lib.NumEnd α) : (∃ v, x = .ok v) ∨ x = Lib.NumEnd.syntax ∨ x = .range := by cases x <;> simp
theorem parseIntB_ran {B : Nat} {l : Str} {v : Int} (h : Lib.parseIntB B l = .ok v) : -(2 ^ (B - 1) : Nat) ≤ v ∧ v < (2 ^ (B - 1) : Nat) := by
  cases l with
  | nil => simp [Lib.parseIntB] at h
  | cons c r =>
    simp only [Lib.parseIntB] at h
    split at h
    · cases h
    · cases h
    · rename_i u hu
      have hp : 0 < 2 ^ (B - 1) := Nat.pow_pos (by omega)
      split at h
      · cases h
      · split at h
        · cases h
        · rename_i h1 h2
          have := Lib.NumEnd.ok.inj h
          subst this
          by_cases hn : c.toNat = 45
          · rw [if_pos hn]; have : ¬ 2 ^ (B - 1) < u := fun hh => h2 ⟨hn, hh⟩
            omega
          · rw [if_neg hn]; have : ¬ 2 ^ (B - 1) ≤ u := fun hh => h1 ⟨hn, hh⟩
            omega
theorem ParseInt_ok (s : ByteArray) (hs : s.size < 4294967281) (b : Nat) (hb : b = 32 ∨ b = 64) (v : Int) (h : Lib.parseIntB b (bl s) = .ok v) (w : World) :
    Calls Tryz.prog 82 #[.string s, .int .i64 10, .int .i64 b] w fun e w' => e = .returned (.tuple #[.int .i64 v, .nilIface]) ∧ Below w.heap.size w w' := by
  rcases hb with rfl | rfl
  · refine (Tryz.strconv_ParseInt_10_at32_ok s (by omega) v h w).mono ?_
    rintro e w' ⟨rfl, rfl | ⟨t, rfl⟩⟩
    · exact ⟨rfl, Below.refl _ _⟩
    · exact ⟨rfl, Lib.bytesWorld_below _ _ _⟩
  · refine (Tryz.strconv_ParseInt_10_at64_ok s (by omega) v h w).mono ?_
    rintro e w' ⟨rfl, rfl | ⟨t, rfl⟩⟩
    · exact ⟨rfl, Below.refl _ _⟩
    · exact ⟨rfl, Lib.bytesWorld_below _ _ _⟩
theorem ParseInt_err (s : ByteArray) (hs : s.size < 4294967281) (b : Nat) (hb : b = 32 ∨ b = 64) (v : Int) (w : World) (E : Env w)
    (h : Lib.parseIntB b (bl s) = Lib.NumEnd.syntax ∧ v = 0 ∨ Lib.parseIntB b (bl s) = .range ∧ v = Lib.intSat b (bl s)) :
    Calls Tryz.prog 82 #[.string s, .int .i64 10, .int .i64 b] w fun e w' => ∃ N, e = .returned (.tuple #[.int .i64 v, .iface 163 (.pointer (some ⟨N, 0, none⟩))]) ∧ Below w.heap.size w w' := by
  obtain ⟨e1, h1, h1'⟩ := E.syn
  obtain ⟨e2, h2, h2'⟩ := E.rng
  rcases hb with rfl | rfl
  · rcases h with ⟨h, rfl⟩ | ⟨h, rfl⟩
    · refine (Tryz.strconv_ParseInt_10_at32_syntax s (by omega) h e1 w h1 h1').mono ?_
      rintro e w' ⟨N, rfl, _, _, hb⟩
      exact ⟨N, rfl, hb⟩
    · refine (Tryz.strconv_ParseInt_10_at32_range s (by omega) h e2 w h2 h2').mono ?_
      rintro e w' ⟨N, rfl, _, _, hb⟩
      exact ⟨N, rfl, hb⟩
  · rcases h with ⟨h, rfl⟩ | ⟨h, rfl⟩
    · refine (Tryz.strconv_ParseInt_10_at64_syntax s (by omega) h e1 w h1 h1').mono ?_
      rintro e w' ⟨N, rfl, _, _, hb⟩
      exact ⟨N, rfl, hb⟩
    · refine (Tryz.strconv_ParseInt_10_at64_range s (by omega) h e2 w h2 h2').mono ?_
      rintro e w' ⟨N, rfl, _, _, hb⟩
      exact ⟨N, rfl, hb⟩
theorem FormatInt_10 (n : Int) (h : In64 n) (w : World) (E : Env w) :
    Calls Tryz.prog 83 #[.int .i64 n, .int .i64 10] w fun e w' => e = .returned (.string ⟨(Lib.itoa n).toArray⟩) ∧ Below w.heap.size w w' := by
  refine (Tryz.strconv_FormatInt_10 n h.1 h.2 w E.pow).mono ?_
  rintro e w' ⟨rfl, k, os, rfl⟩
  refine ⟨rfl, ?_⟩
  have := grow_below (w.drewN k) os
  exact (below_drewN (Below.refl _ _) k).trans this
theorem number_any (s : ByteArray) (hs : s.size < 4294967281) (b : Nat) (hb : b = 32 ∨ b = 64) (w : World) (E : Env w) :
    Calls Tryz.prog 52 #[.string s, .int .i64 b] w fun e w' => e = .returned (.tuple #[.int .i64 (number (bl s) b).1, .bool (number (bl s) b).2]) ∧ Below w.heap.size w w' := by
  rcases numEnd_cases (Lib.parseIntB b (bl s)) with ⟨v, h⟩ | h
  · have hv : In64 v := by
      have := parseIntB_ran h
      rcases hb with rfl | rfl
      · unfold In64; omega
      · unfold In64; omega
    have hn : number (bl s) b = (v, Lib.itoa v == bl s) := by unfold number; rw [h]
    rw [hn]
    clear hn
    have hP := fun w => Lib.hid (ParseInt_ok s hs b hb v h w)
    have HV := Lib.hid hv
    clear hb h hs hv
    go_enter Tryz.func52, Tryz.ntmps52
    go_wp2_with fail
    refine ((hP _).out).mono ?_
    rintro e w1 ⟨rfl, hbw1⟩
    obtain ⟨hcw1, hfw1⟩ := bcell hbw1
    have E1 := E.below hbw1
    go_wp2_with fail
    refine (FormatInt_10 v HV.out _ E1).mono ?_
    rintro e w2 ⟨rfl, hbw2⟩
    obtain ⟨hcw2, hfw2⟩ := bcell hbw2
    go_wp2_with fail
    go_ret2
    exact ⟨ret_int_bool rfl (by rw [ByteArray.toList_eq]), by (repeat' (first | with_reducible assumption | with_reducible exact Below.refl _ _ | (with_reducible refine below_drewN ?_ _) | (with_reducible refine Below.drew ?_) | (with_reducible refine balloc ?_ _) | (with_reducible refine Below.setCell ?_ (by first | exact Nat.le_refl _ | (simp; done) | omega | (simp; omega)) _) | (with_reducible refine bstep ?_ (by with_reducible assumption))))⟩
  · obtain ⟨v, hn, hv⟩ : ∃ v, number (bl s) b = (v, false) ∧ (Lib.parseIntB b (bl s) = Lib.NumEnd.syntax ∧ v = 0 ∨ Lib.parseIntB b (bl s) = .range ∧ v = Lib.intSat b (bl s)) := by
      rcases h with h | h
      · exact ⟨0, by unfold number; rw [h], .inl ⟨h, rfl⟩⟩
      · exact ⟨_, by unfold number; rw [h], .inr ⟨h, rfl⟩⟩
    rw [hn]
    have hP := fun w E => Lib.hid (ParseInt_err s hs b hb v w E hv)
    clear hn hv h hs hb
    go_enter Tryz.func52, Tryz.ntmps52
    go_wp2_with fail
    refine ((hP _ E).out).mono ?_
    rintro e w1 ⟨N, rfl, hbw1⟩
    obtain ⟨hcw1, hfw1⟩ := bcell hbw1
    go_wp2_with fail
    go_ret2
    exact ⟨ret_int_bool rfl rfl, by (repeat' (first | with_reducible assumption | with_reducible exact Below.refl _ _ | (with_reducible refine below_drewN ?_ _) | (with_reducible refine Below.drew ?_) | (with_reducible refine balloc ?_ _) | (with_reducible refine Below.setCell ?_ (by first | exact Nat.le_refl _ | (simp; done) | omega | (simp; omega)) _) | (with_reducible refine bstep ?_ (by with_reducible assumption))))⟩
theorem number_32 (s : ByteArray) (hs : s.size < 4294967281) (w : World) (E : Env w) :
    Calls Tryz.prog 52 #[.string s, .int .i64 32] w fun e w' => e = .returned (.tuple #[.int .i64 (number (bl s) 32).1, .bool (number (bl s) 32).2]) ∧ Below w.heap.size w w' := number_any s hs 32 (.inl rfl) w E
theorem number_64 (s : ByteArray) (hs : s.size < 4294967281) (w : World) (E : Env w) :
    Calls Tryz.prog 52 #[.string s, .int .i64 64] w fun e w' => e = .returned (.tuple #[.int .i64 (number (bl s) 64).1, .bool (number (bl s) 64).2]) ∧ Below w.heap.size w w' := number_any s hs 64 (.inr rfl) w E
/-! ### The library's texts, each answer under a name -/
theorem CutSuffix_is (s : ByteArray) (p r : Str) (b : Bool) (hs : s.size < 4294967281) (hr : Lib.trimSuffix (bl s) p = r) (hb : Lib.hasSuffix (bl s) p = b) (w : World) :
    Calls Tryz.prog 50 #[.string s, .string ⟨p.toArray⟩] w fun e w' => e = .returned (.tuple #[.string ⟨r.toArray⟩, .bool b]) ∧ w = w' := by
  subst hr hb
  exact (Tryz.strings_CutSuffix s ⟨p.toArray⟩ w (by omega)).mono fun e w' h => ⟨h.1, h.2.symm⟩
theorem CutPrefix_is (s : ByteArray) (p r : Str) (b : Bool) (hr : Lib.trimPrefix (bl s) p = r) (hb : Lib.hasPrefix (bl s) p = b) (w : World) :
    Calls Tryz.prog 25 #[.string s, .string ⟨p.toArray⟩] w fun e w' => e = .returned (.tuple #[.string ⟨r.toArray⟩, .bool b]) ∧ w = w' := by
  subst hr hb
  exact (Tryz.strings_CutPrefix s ⟨p.toArray⟩ w).mono fun e w' h => ⟨h.1, h.2.symm⟩
theorem HasPrefix_is (s : ByteArray) (p : Str) (b : Bool) (hb : Lib.hasPrefix (bl s) p = b) (w : World) :
    Calls Tryz.prog 42 #[.string s, .string ⟨p.toArray⟩] w fun e w' => e = .returned (.bool b) ∧ w = w' := by
  subst hb
  exact (Tryz.strings_HasPrefix s ⟨p.toArray⟩ w).mono fun e w' h => ⟨h.1, h.2.symm⟩
theorem HasSuffix_is (s : ByteArray) (p : Str) (b : Bool) (hs : s.size < 4294967281) (hb : Lib.hasSuffix (bl s) p = b) (w : World) :
    Calls Tryz.prog 108 #[.string s, .string ⟨p.toArray⟩] w fun e w' => e = .returned (.bool b) ∧ w = w' := by
  subst hb
  exact (Tryz.strings_HasSuffix s ⟨p.toArray⟩ w (by omega)).mono fun e w' h => ⟨h.1, h.2.symm⟩
theorem Cut_is (s : ByteArray) (p x y : Str) (b : Bool) (hs : s.size < 4294967281) (hr : Lib.cut (bl s) p = (x, y, b)) (w : World) (E : Env w) :
    Calls Tryz.prog 45 #[.string s, .string ⟨p.toArray⟩] w fun e w' => e = .returned (.tuple #[.string ⟨x.toArray⟩, .string ⟨y.toArray⟩, .bool b]) ∧ Below w.heap.size w w' := by
  obtain ⟨m, hm⟩ := E.maxlen
  refine (Tryz.strings_Cut s ⟨p.toArray⟩ m w hs hm).mono ?_
  rintro e w' ⟨rfl, n, rfl⟩
  refine ⟨?_, below_drewN (Below.refl _ _) n⟩
  have hr' : Lib.cut s.data.toList (⟨p.toArray⟩ : ByteArray).data.toList = (x, y, b) := hr
  rw [hr']
theorem Index_is (s : ByteArray) (p : Str) (i : Int) (hs : s.size < 4294967281) (hi : Lib.index (bl s) p = i) (w : World) (E : Env w) :
    Calls Tryz.prog 71 #[.string s, .string ⟨p.toArray⟩] w fun e w' => e = .returned (.int .i64 i) ∧ w = w' := by
  obtain ⟨m, hm⟩ := E.maxlen
  subst hi
  exact (Tryz.strings_Index s ⟨p.toArray⟩ m w hs hm).mono fun e w' h => ⟨h.1, h.2.symm⟩
theorem trimSuffix_le (s p : Str) : (Lib.trimSuffix s p).length ≤ s.length := by unfold Lib.trimSuffix; split <;> simp
theorem trimPrefix_le (s p : Str) : (Lib.trimPrefix s p).length ≤ s.length := by unfold Lib.trimPrefix; split <;> simp
theorem cut_le (s p : Str) : (Lib.cut s p).1.length ≤ s.length ∧ (Lib.cut s p).2.1.length ≤ s.length := by
  unfold Lib.cut; split
  · simp; omega
  · simp
abbrev St (l : Str) : ByteArray := ⟨l.toArray⟩
theorem bl_St (l : Str) : bl (St l) = l := rfl
theorem St_size (l : Str) : (St l).size = l.length := rfl
theorem isLabel_any (s : ByteArray) (hs : s.size < 4294967281) (w : World) :
    Calls Tryz.prog 27 #[.string s] w fun e w' => e = .returned (.tuple #[.string ⟨(isLabel (bl s)).1.toArray⟩, .bool (isLabel (bl s)).2]) ∧ w = w' := by
  obtain ⟨r, hr⟩ : ∃ r, Lib.trimSuffix (bl s) [58] = r := ⟨_, rfl⟩
  obtain ⟨b, hb⟩ : ∃ b, Lib.hasSuffix (bl s) [58] = b := ⟨_, rfl⟩
  obtain ⟨n, hn⟩ : ∃ n, named r = n := ⟨_, rfl⟩
  have hE : isLabel (bl s) = (r, b && n) := by unfold isLabel; rw [hr, hb, hn]
  have hz : (St r).size < 4294967281 := by have := trimSuffix_le (bl s) [58]; rw [hr, bl_len] at this; rw [St_size]; omega
  rw [hE]
  clear hE
  have H1 := fun w => Lib.hid (CutSuffix_is s [58] r b hs hr hb w)
  have H2 : ∀ w, Hid _ := fun w => Lib.hid (named_any (St r) hz w)
  rw [bl_St, hn] at H2
  clear hr hb hs hn hz
  cases b
  · go_enter Tryz.func27, Tryz.ntmps27
    go_wp2_with fail
    refine ((H1 _).out).mono ?_
    rintro e w1 ⟨rfl, rfl⟩
    go_wp2_with fail
    go_ret2
    exact ⟨rfl, rfl⟩
  · go_enter Tryz.func27, Tryz.ntmps27
    go_wp2_with fail
    refine ((H1 _).out).mono ?_
    rintro e w1 ⟨rfl, rfl⟩
    go_wp2_with fail
    refine ((H2 _).out).mono ?_
    rintro e w1 ⟨rfl, rfl⟩
    go_wp2_with fail
    go_ret2
    exact ⟨rfl, rfl⟩
end Go.Proofs.YtfkfdffhajokkaaGreatDoor
