/- What package x86's reading of memory operands and of operands answers; conditions: a text shorter than 2^32 less 15 bytes, the library's variables as they begin. -/
import Derived.Test.YtfkfdffhajokkaaGreatDoorA06
import Derived.RegionTactic
import Derived.BigRegion
namespace Go.Proofs.YtfkfdffhajokkaaGreatDoor
open Go.RowKit X
theorem index_one_nil (c : UInt8) : Lib.index [] [c] = -1 := rfl
theorem index_one_eq (c : UInt8) (r : Str) : Lib.index (c :: r) [c] = 0 := by simp [Lib.index, List.isPrefixOf]
theorem index_one_ne (b c : UInt8) (r : Str) (h : ¬ b = c) : Lib.index (b :: r) [c] = if Lib.index r [c] == -1 then -1 else Lib.index r [c] + 1 := by
  have : ¬ c = b := fun e => h e.symm
  simp [Lib.index, List.isPrefixOf, this]
theorem split_one (c : UInt8) : ∀ s : Str, Lib.split s [c] = splitOn c s
  | [] => rfl
  | b :: r => by
    have ih := split_one c r
    unfold Lib.split at ih ⊢
    by_cases hb : b = c
    · subst hb
      have h0 := index_one_eq b r
      rw [Lib.count_hit (i := 0) (by simp) h0, Nat.add_comm 1]
      unfold Lib.splitK
      rw [if_neg (by rw [h0]; decide), h0]
      simp only [splitOn, if_pos]
      simp only [Int.toNat_zero, Nat.add_zero, List.take_zero, List.length_singleton, Nat.zero_add, List.drop_succ_cons, List.drop_zero]
      rw [ih]
    · have hi := index_one_ne b c r hb
      simp only [splitOn, if_neg hb]
      by_cases hm : Lib.index r [c] = -1
      · have hm' : Lib.index (b :: r) [c] = -1 := by rw [hi, if_pos (by rw [hm]; rfl)]
        rw [Lib.count_miss hm'] 
        rw [Lib.count_miss hm] at ih
        simp only [Lib.splitK] at ih ⊢
        rw [← ih]
      · have hge := Lib.index_ge r [c]
        obtain ⟨i, hI⟩ : ∃ i : Nat, Lib.index r [c] = i := ⟨(Lib.index r [c]).toNat, by omega⟩
        have hI' : Lib.index (b :: r) [c] = (i + 1 : Nat) := by rw [hi, if_neg (by rw [beq_iff_eq]; exact hm), hI]; rfl
        rw [Lib.count_hit (by simp) hI', Nat.add_comm 1]
        rw [Lib.count_hit (by simp) hI, Nat.add_comm 1] at ih
        unfold Lib.splitK at ih ⊢
        rw [if_neg (by rw [hI', beq_iff_eq]; omega), hI']
        rw [if_neg (by rw [hI, beq_iff_eq]; omega), hI] at ih
        rw [← ih]
        simp only [Int.toNat_natCast, Nat.add_zero, List.take_succ_cons, List.length_singleton, List.drop_succ_cons]
theorem splitOn_ne (c : UInt8) : ∀ s : Str, splitOn c s ≠ []
  | [] => by simp [splitOn]
  | b :: r => by unfold splitOn; split; · simp
                 · split <;> simp
/-- strings.Split at a text of one byte. -/
theorem splitB_one (c : UInt8) (s : ByteArray) : (Lib.splitB ⟨#[c]⟩ 0 (Lib.countB s ⟨#[c]⟩) s).map Value.string = (splitOn c (bl s)).map fun x => Value.string (St x) := by
  have h := Lib.splitB_data ⟨#[c]⟩ 0 (Lib.countB s ⟨#[c]⟩) s
  have h2 := split_one c (bl s)
  unfold Lib.split at h2
  have h3 : (Lib.splitB ⟨#[c]⟩ 0 (Lib.countB s ⟨#[c]⟩) s).map (·.data.toList) = splitOn c (bl s) := by rw [h]; exact h2
  rw [← h3, List.map_map]
  apply List.map_congr_left
  intro x _
  simp [St]
theorem splitB_len (c : UInt8) (s : ByteArray) : Lib.countB s ⟨#[c]⟩ + 1 = (splitOn c (bl s)).length := by
  rw [← split_one]
  have : ∀ (n : Nat) (s : Str), n = Lib.count s [c] → n + 1 = (Lib.splitK [c] 0 n s).length := by
    intro n
    induction n with
    | zero => intro s _; rfl
    | succ n ih =>
      intro s hn
      have hge := Lib.index_ge s [c]
      have hm : ¬ Lib.index s [c] = -1 := fun e => by rw [Lib.count_miss e] at hn; omega
      obtain ⟨i, hI⟩ : ∃ i : Nat, Lib.index s [c] = i := ⟨(Lib.index s [c]).toNat, by omega⟩
      rw [Lib.count_hit (by simp) hI] at hn
      unfold Lib.splitK
      rw [if_neg (by rw [beq_iff_eq]; exact hm), hI, List.length_cons, ← ih _ (by simp only [Int.toNat_natCast]; omega)]
  exact this _ _ rfl
def strCells (l : List Str) : Array Value := (l.map fun x => Value.string (St x)).toArray
theorem Split_is (s : ByteArray) (c : UInt8) (l : List Str) (n : Nat) (hs : s.size < 4294967281) (hl : splitOn c (bl s) = l) (hn : l.length = n) (w : World) (E : Env w) :
    Calls Tryz.prog 23 #[.string s, .string ⟨#[c]⟩] w fun e w' => e = .returned (.slice (some ⟨w.heap.size, 0, none⟩) n n) ∧ w' = w.alloc (.cells (strCells l) 9) := by
  obtain ⟨m, hm⟩ := E.maxlen
  subst hn hl
  refine (Tryz.strings_Split s ⟨#[c]⟩ m w hs hm (Nat.le_refl 1)).mono ?_
  rintro e w' ⟨rfl, rfl⟩
  rw [splitB_one, splitB_len]
  exact ⟨rfl, rfl⟩
theorem strCells_cell (l : List Str) (k : Nat) (hk : k < l.length) : (strCells l)[k]? = some (.string (St (l.getD k []))) := by
  simp [strCells, hk]
abbrev zeroO : Obj := .cells #[.int .i64 0, .int .i64 0, .int .i64 0, .int .i64 0, .int .i64 0, .int .i64 0, .string { data := #[] }] 118
theorem mem_bad1 (s : ByteArray) (hs : s.size < 4294967281) (h y : Str) (b : Bool) (hc : Lib.cut (bl s) [40] = (h, y, b)) (hb : b = false ∨ Lib.hasSuffix y [41] = false) (w : World) (E : Env w) :
    Calls Tryz.prog 79 #[.string s] w fun e w' => e = .returned (.tuple #[Ov Opd.zero, .bool false]) ∧ Below w.heap.size w w' := by
  have hz : (St y).size < 4294967281 := by have := (cut_le (bl s) [40]).2; rw [hc, bl_len] at this; simp only at this; rw [St_size]; omega
  have E1 := E.below (balloc (Below.refl _ _) zeroO)
  have H1 := fun w E => Lib.hid (Cut_is s [40] h y b hs hc w E)
  cases b
  · clear hb hc hz
    go_enter Tryz.func79, Tryz.ntmps79
    go_wp2_with fail
    refine ((H1 _ E1).out).mono ?_
    rintro e w1 ⟨rfl, hbw1⟩
    obtain ⟨hcw1, hfw1⟩ := bcell hbw1
    have hz : w.heap.size < w1.heap.size := by have := hbw1.size; simp at this; omega
    go_wp2_with fail
    refine bodyPost_ret (v := .tuple #[Ov Opd.zero, .bool false]) (by simp [results, Tryz.results79, go_sem, hcw1, Ov, Opd.zero]) rfl ⟨rfl, ?_⟩
    (repeat' (first | with_reducible assumption | with_reducible exact Below.refl _ _ | (with_reducible refine below_drewN ?_ _) | (with_reducible refine Below.drew ?_) | (with_reducible refine balloc ?_ _) | (with_reducible refine Below.setCell ?_ (by first | exact Nat.le_refl _ | (simp; done) | omega | (simp; omega)) _) | (with_reducible refine bstep ?_ (by with_reducible assumption))))
  · have H2 := fun w => Lib.hid (HasSuffix_is (St y) [41] false hz (hb.resolve_left (by simp)) w)
    clear hb hc
    go_enter Tryz.func79, Tryz.ntmps79
    go_wp2_with fail
    refine ((H1 _ E1).out).mono ?_
    rintro e w1 ⟨rfl, hbw1⟩
    obtain ⟨hcw1, hfw1⟩ := bcell hbw1
    have hz : w.heap.size < w1.heap.size := by have := hbw1.size; simp at this; omega
    go_wp2_with fail
    refine ((H2 _).out).mono ?_
    rintro e w2 ⟨rfl, rfl⟩
    go_wp2_with fail
    refine bodyPost_ret (v := .tuple #[Ov Opd.zero, .bool false]) (by simp [results, Tryz.results79, go_sem, hcw1, Ov, Opd.zero]) rfl ⟨rfl, ?_⟩
    (repeat' (first | with_reducible assumption | with_reducible exact Below.refl _ _ | (with_reducible refine below_drewN ?_ _) | (with_reducible refine Below.drew ?_) | (with_reducible refine balloc ?_ _) | (with_reducible refine Below.setCell ?_ (by first | exact Nat.le_refl _ | (simp; done) | omega | (simp; omega)) _) | (with_reducible refine bstep ?_ (by with_reducible assumption))))
theorem dropLast_extract (y : Str) : (St y).extract 0 (y.length - 1) = St y.dropLast := by
  have : ((St y).extract 0 (y.length - 1)).data = (St y.dropLast).data := by
    apply Array.ext'
    rw [Lib.extract_data]
    simp [List.dropLast_eq_take]
  exact ByteArray.ext this
set_option maxHeartbeats 1000000 in
set_option maxRecDepth 100000 in
theorem mem_var (s : ByteArray) (hs : s.size < 4294967281) (h y : Str) (hc : Lib.cut (bl s) [40] = (h, y, true)) (hb : Lib.hasSuffix y [41] = true) (hr : y.dropLast = ([37, 114, 105, 112] : Str)) (w : World) (E : Env w) :
    Calls Tryz.prog 79 #[.string s] w fun e w' => e = .returned (.tuple #[Ov (memVar h).1, .bool (memVar h).2]) ∧ Below w.heap.size w w' := by
  have hz : (St y).size < 4294967281 := by have := (cut_le (bl s) [40]).2; rw [hc, bl_len] at this; simp only at this; rw [St_size]; omega
  have hzh : (St h).size < 4294967281 := by have := (cut_le (bl s) [40]).1; rw [hc, bl_len] at this; simp only at this; rw [St_size]; omega
  have hy1 : 1 ≤ y.length := by have := congrArg List.length hr; simp at this; omega
  have E1 := E.below (balloc (Below.refl _ _) zeroO)
  have H1 := fun w E => Lib.hid (Cut_is s [40] h y true hs hc w E)
  have H2 := fun w => Lib.hid (HasSuffix_is (St y) [41] true hz hb w)
  obtain ⟨x, hx⟩ : ∃ x, Lib.cut h [43] = x := ⟨_, rfl⟩
  obtain ⟨nm, off, plus⟩ := x
  have hzo : (St off).size < 4294967281 := by have := (cut_le h [43]).2; rw [hx] at this; simp only at this; rw [St_size] at hzh ⊢; omega
  have hzn : (St nm).size < 4294967281 := by have := (cut_le h [43]).1; rw [hx] at this; simp only at this; rw [St_size] at hzh ⊢; omega
  have H3 := fun w E => Lib.hid (Cut_is (St h) [43] nm off plus hzh hx w E)
  have H4 : ∀ w E, Hid _ := fun w E => Lib.hid (number_32 (St off) hzo w E)
  rw [bl_St] at H4
  have H5 : ∀ w, Hid _ := fun w => Lib.hid (named_any (St nm) hzn w)
  rw [bl_St] at H5
  obtain ⟨q, hq⟩ : ∃ q, number off 32 = q := ⟨_, rfl⟩
  obtain ⟨n, f⟩ := q
  rw [hq] at H4
  obtain ⟨u, hu⟩ : ∃ u, named nm = u := ⟨_, rfl⟩
  rw [hu] at H5
  have hE : memVar h = (⟨3, -1, 0, if plus then n else 0, -1, 0, nm⟩, (if plus then (f && decide (0 < n)) else true) && u) := by
    unfold memVar; rw [hx]; simp only [hq, hu]; cases plus <;> rfl
  rw [hE]
  have hyl : y.length ≤ 4294967281 := by rw [St_size] at hz; omega
  have hd : Hid ((St y).extract 0 (y.length - 1) = St ([37, 114, 105, 112] : Str)) := by have := dropLast_extract y; rw [hr] at this; exact this
  have he : ((St y).extract 0 (y.length - 1)).toList = [37, 114, 105, 112] := by rw [hd.out, ByteArray.toList_eq]
  have he1 : (((St y).extract 0 (y.length - 1)).toList == [37, 114, 105, 112]) = true := by rw [he]; rfl
  clear hE hq hu hx hb hc hz hzh hzo hzn hs hr he
  cases plus
  · go_enter Tryz.func79, Tryz.ntmps79
    go_wp2_with fail
    refine ((H1 _ E1).out).mono ?_
    rintro e w1 ⟨rfl, hbw1⟩
    obtain ⟨hcw1, hfw1⟩ := bcell hbw1
    have hz : w.heap.size < w1.heap.size := by have := hbw1.size; simp at this; omega
    have E2 := E1.below hbw1
    go_wp2_with fail
    refine ((H2 _).out).mono ?_
    rintro e w2 ⟨rfl, rfl⟩
    go_wp2_with fail
    refine ((H3 _ E2).out).mono ?_
    rintro e w3 ⟨rfl, hbw3⟩
    obtain ⟨hcw3, hfw3⟩ := bcell hbw3
    go_wp2_with fail
    refine ((H5 _).out).mono ?_
    rintro e w4 ⟨rfl, rfl⟩
    go_wp2_with fail
    refine bodyPost_ret (v := .tuple #[Ov ⟨3, -1, 0, 0, -1, 0, nm⟩, .bool u]) (by simp [results, Tryz.results79, go_sem, hcw1, hcw3, hz, Ov]) rfl ⟨by simp, ?_⟩
    (repeat' (first | with_reducible assumption | with_reducible exact Below.refl _ _ | (with_reducible refine below_drewN ?_ _) | (with_reducible refine Below.drew ?_) | (with_reducible refine balloc ?_ _) | (with_reducible refine Below.setCell ?_ (by first | exact Nat.le_refl _ | (simp; done) | omega | (simp; omega)) _) | (with_reducible refine bstep ?_ (by with_reducible assumption))))
  · cases f
    · go_enter Tryz.func79, Tryz.ntmps79
      go_wp2_with fail
      refine ((H1 _ E1).out).mono ?_
      rintro e w1 ⟨rfl, hbw1⟩
      obtain ⟨hcw1, hfw1⟩ := bcell hbw1
      have hz : w.heap.size < w1.heap.size := by have := hbw1.size; simp at this; omega
      have E2 := E1.below hbw1
      go_wp2_with fail
      refine ((H2 _).out).mono ?_
      rintro e w2 ⟨rfl, rfl⟩
      go_wp2_with fail
      refine ((H3 _ E2).out).mono ?_
      rintro e w3 ⟨rfl, hbw3⟩
      obtain ⟨hcw3, hfw3⟩ := bcell hbw3
      have E3 := E2.below hbw3
      have hz3 : w.heap.size < w3.heap.size := by have := hbw3.size; omega
      go_wp2_with fail
      refine ((H4 _ E3).out).mono ?_
      rintro e w4 ⟨rfl, hbw4⟩
      obtain ⟨hcw4, hfw4⟩ := bcell hbw4
      go_wp2_with fail
      refine bodyPost_ret (v := .tuple #[Ov ⟨3, -1, 0, n, -1, 0, nm⟩, .bool false]) (by simp [results, Tryz.results79, go_sem, hcw1, hcw3, hcw4, hz, hz3, Ov]) rfl ⟨by simp, ?_⟩
      (repeat' (first | with_reducible assumption | with_reducible exact Below.refl _ _ | (with_reducible refine below_drewN ?_ _) | (with_reducible refine Below.drew ?_) | (with_reducible refine balloc ?_ _) | (with_reducible refine Below.setCell ?_ (by first | exact Nat.le_refl _ | (simp; done) | omega | (simp; omega)) _) | (with_reducible refine bstep ?_ (by with_reducible assumption))))
    · obtain ⟨g, hg⟩ : ∃ g, decide (0 < n) = g := ⟨_, rfl⟩
      rw [hg]
      cases g
      · go_enter Tryz.func79, Tryz.ntmps79
        go_wp2_with fail
        refine ((H1 _ E1).out).mono ?_
        rintro e w1 ⟨rfl, hbw1⟩
        obtain ⟨hcw1, hfw1⟩ := bcell hbw1
        have hz : w.heap.size < w1.heap.size := by have := hbw1.size; simp at this; omega
        have E2 := E1.below hbw1
        go_wp2_with fail
        refine ((H2 _).out).mono ?_
        rintro e w2 ⟨rfl, rfl⟩
        go_wp2_with fail
        refine ((H3 _ E2).out).mono ?_
        rintro e w3 ⟨rfl, hbw3⟩
        obtain ⟨hcw3, hfw3⟩ := bcell hbw3
        have E3 := E2.below hbw3
        have hz3 : w.heap.size < w3.heap.size := by have := hbw3.size; omega
        go_wp2_with fail
        refine ((H4 _ E3).out).mono ?_
        rintro e w4 ⟨rfl, hbw4⟩
        obtain ⟨hcw4, hfw4⟩ := bcell hbw4
        go_wp2_with fail
        refine bodyPost_ret (v := .tuple #[Ov ⟨3, -1, 0, n, -1, 0, nm⟩, .bool false]) (by simp [results, Tryz.results79, go_sem, hcw1, hcw3, hcw4, hz, hz3, Ov]) rfl ⟨by simp, ?_⟩
        (repeat' (first | with_reducible assumption | with_reducible exact Below.refl _ _ | (with_reducible refine below_drewN ?_ _) | (with_reducible refine Below.drew ?_) | (with_reducible refine balloc ?_ _) | (with_reducible refine Below.setCell ?_ (by first | exact Nat.le_refl _ | (simp; done) | omega | (simp; omega)) _) | (with_reducible refine bstep ?_ (by with_reducible assumption))))
      · go_enter Tryz.func79, Tryz.ntmps79
        go_wp2_with fail
        refine ((H1 _ E1).out).mono ?_
        rintro e w1 ⟨rfl, hbw1⟩
        obtain ⟨hcw1, hfw1⟩ := bcell hbw1
        have hz : w.heap.size < w1.heap.size := by have := hbw1.size; simp at this; omega
        have E2 := E1.below hbw1
        go_wp2_with fail
        refine ((H2 _).out).mono ?_
        rintro e w2 ⟨rfl, rfl⟩
        go_wp2_with fail
        refine ((H3 _ E2).out).mono ?_
        rintro e w3 ⟨rfl, hbw3⟩
        obtain ⟨hcw3, hfw3⟩ := bcell hbw3
        have E3 := E2.below hbw3
        have hz3 : w.heap.size < w3.heap.size := by have := hbw3.size; omega
        go_wp2_with fail
        refine ((H4 _ E3).out).mono ?_
        rintro e w4 ⟨rfl, hbw4⟩
        obtain ⟨hcw4, hfw4⟩ := bcell hbw4
        go_wp2_with fail
        refine ((H5 _).out).mono ?_
        rintro e w5 ⟨rfl, rfl⟩
        go_wp2_with fail
        refine bodyPost_ret (v := .tuple #[Ov ⟨3, -1, 0, n, -1, 0, nm⟩, .bool u]) (by simp [results, Tryz.results79, go_sem, hcw1, hcw3, hcw4, hz, hz3, Ov]) rfl ⟨by simp, ?_⟩
        (repeat' (first | with_reducible assumption | with_reducible exact Below.refl _ _ | (with_reducible refine below_drewN ?_ _) | (with_reducible refine Below.drew ?_) | (with_reducible refine balloc ?_ _) | (with_reducible refine Below.setCell ?_ (by first | exact Nat.le_refl _ | (simp; done) | omega | (simp; omega)) _) | (with_reducible refine bstep ?_ (by with_reducible assumption))))
theorem piece_le (c : UInt8) : ∀ (s x : Str), x ∈ splitOn c s → x.length ≤ s.length
  | [], x, h => by simp [splitOn] at h; simp [h]
  | b :: r, x, h => by
    have ih := piece_le c r
    unfold splitOn at h
    split at h
    · rcases List.mem_cons.1 h with rfl | h
      · simp
      · have := ih x h; simp; omega
    · split at h
      · rename_i e; exact absurd e (splitOn_ne c r)
      · rename_i y ys e
        rcases List.mem_cons.1 h with rfl | h
        · have := ih y (by rw [e]; simp); simp; omega
        · have := ih x (by rw [e]; simp [h]); simp; omega
theorem getD_le (c : UInt8) (s : Str) (k : Nat) : ((splitOn c s).getD k []).length ≤ s.length := by
  rw [List.getD_eq_getElem?_getD]
  cases hx : (splitOn c s)[k]? with
  | none => simp
  | some x => exact piece_le c s x (List.mem_of_getElem? hx)
end Go.Proofs.YtfkfdffhajokkaaGreatDoor
