/- Proved: the card of X86Loops (Rows.X86LoopsCardSaid): for every input the call returns true, and each argument reads afterwards as it read before; conditions: none beyond the card's own (the listed package variables begin as the program's text lays them). -/
import Derived.Test.YtfkfdffhajokkaaGreatDoorA39
import Derived.Test.YtfkfdffhajokkaaGreatDoorA43
import Derived.ChangeSlices
namespace Go.Proofs.YtfkfdffhajokkaaGreatDoor.Card
open Go.RowKit Go.ChangeShapes Go.WideShapes Go.WideAt
set_option linter.unusedSimpArgs false
theorem params6 : Tryz.f6.params = #[3, 4] := by kernel_rfl
set_option maxRecDepth 100000 in
theorem loops_lifted (os : Os) (started : os.Started) (H : Type) (enc : TypeId × Value → H) :
    ReturnsInHanded {} Tryz.checked os 6 .any (fun w args => (Rows.x86LoopsSpec.pre enc Tryz.prog Tryz.f6 [] false w args ∧ laidMetH Tryz.prog laid4 w) ∧ sizedMet enc Tryz.prog Tryz.f6 (OpenSpec.ofChange Rows.x86LoopsSpec) false w args)
      (Rows.x86LoopsSpec.post enc Tryz.prog Tryz.f6 false true false false) := by
  refine wrapped (C := Tryz.checked) own started (by kernel_rfl) Tryz.func6
    (ChangeSpec.witness_shaped (enc := enc) (C := Tryz.checked) (os := os) (X := fun w _ => laidMetH Tryz.prog laid4 w) false (start os) #[.int .i64 0, .bool false] 8 (start_os os) (start_shaped os _) (by kernel_rfl) (by kernel_rfl) (by kernel_rfl) (start_met os _)) ?_
  intro W base args ds gs before hval0 hW hL hsh
  have hval : ∀ (j : Nat) t v, Tryz.f6.params[j]? = some t → args[j]? = some v → Value.okWide Tryz.prog W .any base t v := hval0
  have hW' := hW
  obtain ⟨p, q, hA0, hV, rfl, hfz, hnd⟩ := hW
  have hA : DataW.TrodAll enc Tryz.prog W 0 (fun _ => true) true Tryz.f6.params.toList args.toList ds p := hA0
  rw [params6] at hA hval
  obtain ⟨v0, v1, d0, d1, p0, p1, rfl, rfl, rfl, h0, h1⟩ := trodAll_two hA
  obtain ⟨rfl, rfl⟩ := trodVars_none hV
  obtain ⟨x, rfl, rfl, rfl, wx⟩ := open_int und3 (hval 0 3 v0 rfl rfl) h0
  obtain ⟨b, rfl, rfl, rfl⟩ := open_bool und4 (hval 1 4 v1 rfl rfl) h1
  clear hA0 hval0
  simp only [List.append_nil] at hW'
  obtain ⟨E, F⟩ := env_of hsh hL (old9 hL)
  refine (Loops_any x b W E F).mono fun e W' ⟨he, hb⟩ => ?_
  subst he
  refine ⟨_, rfl, _, _, _, [], _, [], hW', trodAll_mk1 (shut_bool und4 true), trodAll_mk2 (shut_int und3 wx) (shut_bool und4 b), rfl, hb.frame _, fun h => by cases h⟩
theorem loops_holds : Rows.X86LoopsSaid :=
  OpenClaim.holds_of_wide 6 Tryz.f6 rfl rfl rfl rfl rfl rfl rfl ⟨rfl, rfl, rfl, rfl, rfl⟩ rfl rfl rfl rfl rfl (by kernel_rfl) Tryz.func6 (by kernel_rfl)
    (of_decide_eq_true (by kernel_rfl)) (by unfold Func.isWrapper; first | (rw [if_pos (by decide +kernel)]; kernel_rfl) | (rw [if_neg (by decide +kernel)]; exact ⟨rfl, rfl⟩))
    (fun os started H enc _ => loops_lifted os started H enc)
theorem loops_card : Rows.X86LoopsCardSaid :=
  Claim7.holds_tied_plain_at .later [] [.data, .data, .data, .data, .sentinel, .sentinel, .mappedDeep, .pinned] true (true, "6b4594821ad5a5cf6226c65788352835d1680a156e5ba39ca27b1a83a4a66873") true
    loops_holds (fun _ h => by cases h) (by kernel_rfl) (fun _ h => by cases h) x86Loops_row_tie rfl ⟨rfl, rfl⟩ (by kernel_rfl) rfl
    (fun f fn hf hfn => by
      obtain rfl : f = 6 := Option.some.inj ((show Tryz.prog.funcNamed "spokeshave/spokeshavelaw23.X86Loops" = some 6 by kernel_rfl).symm.trans hf) |>.symm
      obtain rfl : fn = Tryz.f6 := (Option.some.inj (Tryz.func6.symm.trans hfn)).symm
      exact ⟨by kernel_rfl, fun j t ht => by
        rw [params6] at ht
        have hm : t ∈ [3, 4] := by simpa using Array.mem_of_getElem? ht
        have hall : ([3, 4].all fun u => !Tryz.prog.wantsStandIn u) = true := by kernel_rfl
        exact (show Tryz.prog.wantsStandIn t = false by simpa using List.all_eq_true.1 hall t hm)⟩)
    (by kernel_rfl)
end Go.Proofs.YtfkfdffhajokkaaGreatDoor.Card
namespace Go.Proofs.YtfkfdffhajokkaaGreatDoor
/-- X86Loops ANSWERS TRUE, whatever its two arguments. -/
theorem x86Loops_holds : Rows.X86LoopsCardSaid := Card.loops_card
#print axioms x86Loops_holds
end Go.Proofs.YtfkfdffhajokkaaGreatDoor
