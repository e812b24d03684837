/- Proved: the card of X86Stack (Rows.X86StackCardSaid): for every input the call returns true, and each argument reads afterwards as it read before; conditions: none beyond the card's own (the listed package variables begin as the program's text lays them). -/
import Derived.Test.YtfkfdffhajokkaaGreatDoorA40
import Derived.Test.YtfkfdffhajokkaaGreatDoorA39
import Derived.ChangeSlices
namespace Go.Proofs.YtfkfdffhajokkaaGreatDoor.Card
open Go.RowKit Go.ChangeShapes Go.WideShapes Go.WideAt
set_option linter.unusedSimpArgs false
theorem params5 : Tryz.f5.params = #[23, 3] := by kernel_rfl
theorem und23c : Tryz.prog.underlying 23 = some (.slice 5) := by kernel_rfl
theorem und5c : Tryz.prog.underlying 5 = some (.int .u8) := by kernel_rfl
theorem c5 : Tryz.prog.cellsOf 5 = 1 := by kernel_rfl
theorem laidOut : laidOutB Tryz.prog = true := by kernel_rfl
theorem byte_of_wf {x : Int} (h : (Lit.int .u8 x).wf = true) : 0 ≤ x ∧ x < 256 := by
  have h1 : IntKind.u8.min = 0 := rfl
  have h2 : IntKind.u8.max = 255 := rfl
  simp only [Lit.wf, Bool.and_eq_true, decide_eq_true_eq] at h
  omega
set_option maxRecDepth 100000 in
/-- A slice of bytes that came in, as it lies in memory. -/
theorem bytes_in {H : Type} {enc : TypeId × Value → H} {W : World} {base : Nat} {v : Value} {d : DataW H} {p : List MemPlace} (hval : Value.okWide Tryz.prog W .any base 23 v) (h : DataW.Trod enc Tryz.prog W 0 (fun _ => true) true 23 v d p) :
    ∃ (ns : List UInt8) (ad : Option Addr) (cap : Nat), v = .slice ad ns.length cap ∧ InAt W (.slice ad ns.length cap) ns := by
  obtain ⟨a0, len, cap, rfl⟩ := okWide_slice und23c hval
  obtain ⟨fuel, hf⟩ := h
  rcases open_ints und23c und5c c5 hf with ⟨hcs, hx⟩ | ⟨a, len', cap', zs, hcs, _, hl, hmx, hz, hx, hcell, hwz⟩
  · simp [Value.cells] at hcs
    obtain ⟨rfl, rfl, rfl⟩ := hcs
    exact ⟨[], none, 0, rfl, InAt.nil W⟩
  · simp [Value.cells] at hcs
    obtain ⟨rfl, rfl, rfl⟩ := hcs
    simp only [if_true] at hz
    have hlen : ((zs.take len).map fun z => UInt8.ofNat z.toNat).length = len := by simp; omega
    refine ⟨(zs.take len).map fun z => UInt8.ofNat z.toNat, some a, cap, by rw [hlen], some a, cap, rfl, by omega, fun h0 => ?_⟩
    rw [hlen] at h0 ⊢
    have get : ∀ i, i < len → W.cell? (a.add i) = some (.int .u8 ((((zs.take len).map fun z => UInt8.ofNat z.toNat).getD i 0).toNat : Int)) := fun i hi => by
      rw [hcell i (by omega)]
      have hb := byte_of_wf (hwz (zs.getD i 0) (by
        rw [List.getD_eq_getElem?_getD, List.getElem?_eq_getElem (by omega)]
        exact List.getElem_mem _))
      have e : ((zs.take len).map fun z => UInt8.ofNat z.toNat).getD i 0 = UInt8.ofNat (zs.getD i 0).toNat := by
        simp only [List.getD_eq_getElem?_getD, List.getElem?_map, List.getElem?_take, if_pos hi]
        rw [List.getElem?_eq_getElem (by omega)]
        rfl
      rw [e]
      have : ((UInt8.ofNat (zs.getD i 0).toNat).toNat : Int) = zs.getD i 0 := by
        rw [UInt8.toNat_ofNat']
        have : (zs.getD i 0).toNat < 256 := by omega
        omega
      rw [this]
    have g0 := get 0 h0
    have e0 : a.add 0 = a := by simp [Addr.add]
    rw [e0] at g0
    refine ⟨a.block, a.off, ?_, fun i hi => ?_⟩
    · rw [← e0, add_at g0 0]
    · rw [← add_at g0 i]; exact get i hi
set_option maxRecDepth 100000 in
theorem stack_lifted (os : Os) (started : os.Started) (H : Type) (enc : TypeId × Value → H) :
    ReturnsInHanded {} Tryz.checked os 5 .any (fun w args => (Rows.x86StackSpec.pre enc Tryz.prog Tryz.f5 [] false w args ∧ laidMetH Tryz.prog laid4 w) ∧ sizedMet enc Tryz.prog Tryz.f5 (OpenSpec.ofChange Rows.x86StackSpec) false w args)
      (Rows.x86StackSpec.post enc Tryz.prog Tryz.f5 false true false false) := by
  refine wrapped (C := Tryz.checked) own started (by kernel_rfl) Tryz.func5
    (ChangeSpec.witness_shaped (enc := enc) (C := Tryz.checked) (os := os) (X := fun w _ => laidMetH Tryz.prog laid4 w) false (start os) #[.slice none 0 0, .int .i64 0] 8 (start_os os) (start_shaped os _) (by kernel_rfl) (by kernel_rfl) (by kernel_rfl) (start_met os _)) ?_
  intro W base args ds gs before hval0 hW hL hsh
  have hval : ∀ (j : Nat) t v, Tryz.f5.params[j]? = some t → args[j]? = some v → Value.okWide Tryz.prog W .any base t v := hval0
  have hW' := hW
  obtain ⟨p, q, hA0, hV, rfl, hfz, hnd⟩ := hW
  have hA : DataW.TrodAll enc Tryz.prog W 0 (fun _ => true) true Tryz.f5.params.toList args.toList ds p := hA0
  rw [params5] at hA hval
  obtain ⟨v0, v1, d0, d1, p0, p1, rfl, rfl, rfl, h0, h1⟩ := trodAll_two hA
  obtain ⟨rfl, rfl⟩ := trodVars_none hV
  obtain ⟨x, rfl, rfl, rfl, wx⟩ := open_int und3 (hval 1 3 v1 rfl rfl) h1
  obtain ⟨ns, ad, cap, rfl, hin⟩ := bytes_in (hval 0 23 v0 rfl rfl) h0
  clear hA0 hval0
  simp only [List.append_nil] at hW'
  have hlt : ∀ x ∈ p0, x.block < W.heap.size := fun x hx => by simpa using hW'.lt x hx
  obtain ⟨E, F⟩ := env_of hsh hL (old9 hL)
  refine (Stack_any ns ad cap x W hin E F).mono fun e W' ⟨he, hb⟩ => ?_
  subst he
  refine ⟨_, rfl, _, _, _, [], _, [], hW', trodAll_mk1 (shut_bool und4 true), trodAll_mk2 (Below.trod laidOut (by kernel_rfl) (of_decide_eq_true (by kernel_rfl)) h0 hb hlt) (shut_int und3 wx), rfl, hb.frame _, fun h => by cases h⟩
theorem stack_holds : Rows.X86StackSaid :=
  OpenClaim.holds_of_wide 5 Tryz.f5 rfl rfl rfl rfl rfl rfl rfl ⟨rfl, rfl, rfl, rfl, rfl⟩ rfl rfl rfl rfl rfl (by kernel_rfl) Tryz.func5 (by kernel_rfl)
    (of_decide_eq_true (by kernel_rfl)) (by unfold Func.isWrapper; first | (rw [if_pos (by decide +kernel)]; kernel_rfl) | (rw [if_neg (by decide +kernel)]; exact ⟨rfl, rfl⟩))
    (fun os started H enc _ => stack_lifted os started H enc)
theorem stack_card : Rows.X86StackCardSaid :=
  Claim7.holds_tied_plain_at .later [] [.data, .data, .data, .data, .sentinel, .sentinel, .mappedDeep, .pinned] true (true, "6b4594821ad5a5cf6226c65788352835d1680a156e5ba39ca27b1a83a4a66873") true
    stack_holds (fun _ h => by cases h) (by kernel_rfl) (fun _ h => by cases h) x86Stack_row_tie rfl ⟨rfl, rfl⟩ (by kernel_rfl) rfl
    (fun f fn hf hfn => by
      obtain rfl : f = 5 := Option.some.inj ((show Tryz.prog.funcNamed "spokeshave/spokeshavelaw23.X86Stack" = some 5 by kernel_rfl).symm.trans hf) |>.symm
      obtain rfl : fn = Tryz.f5 := (Option.some.inj (Tryz.func5.symm.trans hfn)).symm
      exact ⟨by kernel_rfl, fun j t ht => by
        rw [params5] at ht
        have hm : t ∈ [23, 3] := by simpa using Array.mem_of_getElem? ht
        have hall : ([23, 3].all fun u => !Tryz.prog.wantsStandIn u) = true := by kernel_rfl
        exact (show Tryz.prog.wantsStandIn t = false by simpa using List.all_eq_true.1 hall t hm)⟩)
    (by kernel_rfl)
end Go.Proofs.YtfkfdffhajokkaaGreatDoor.Card
namespace Go.Proofs.YtfkfdffhajokkaaGreatDoor
/-- X86Stack ANSWERS TRUE, whatever its two arguments. -/
theorem x86Stack_holds : Rows.X86StackCardSaid := Card.stack_card
#print axioms x86Stack_holds
end Go.Proofs.YtfkfdffhajokkaaGreatDoor
