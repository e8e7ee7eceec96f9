import Derived.Test.YtjcbpfhlgebgdaaDoorRows
import Derived.Test.YtjcbpfhlgebgdaaDoorCards
import Derived.Test.YtjcbpfhlgebgdaaDoorTie
import Derived.Test.YtjcbpfhlgebgdaaDoorP22p
import Derived.Test.YtjcbpfhlgebgdaaDoorXO
import Derived.ProofKit
import Derived.OpenShut
import Derived.LaidMore
import Derived.Lay
import Derived.SevenTiedAt
import Derived.Stop.Joined
import Derived.SizedLaws
import Derived.ChangeBears2
set_option linter.unusedSimpArgs false
set_option linter.unusedVariables false
namespace Go.Proofs.YtjcbpfhlgebgdaaDoor
open Go.ChangeShapes Go.WideShapes Go.ChangeAt Go.RowKit Go.Eng Go.X
theorem planParses_call (W : World) (hL : laidMetH Tryd.prog Rows.planParsesRow.laid W) (x0 : Value) (y0 : List UInt8) (h0 : Eng.R (E0 W) (enc_str y0) x0) (f0 : fit (enc_str y0)) :
    Calls Tryd.prog 4 #[x0] W fun e w' => e = .returned (.bool true) ∧ Below W.heap.size W w' := by
  have hF : Go.Eng.Fn Tryd.prog 4 [enc_str y0] [] (.bool true) [] := packhorselaw22_PlanParses.fn y0 true (planParses_w y0)
  refine (hF W _ (fun _ => none) #[x0] ⟨fun _ _ h => h, fun g vs h => by cases h⟩ (by simp only [RL]; exact ⟨x0, _, rfl, h0, rfl⟩) (fun i B h => by simp at h) (fun i j b h => by cases h) (fun _ _ => rfl)).mono fun e w' ⟨v, pr', he, hr, _, hleft⟩ => ?_
  simp only [Eng.R] at hr
  exact ⟨by rw [he, hr], { os := hleft.os, tape := hleft.tape, output := hleft.output, size := hleft.size, block := fun k hk => hleft.block k hk (by simp) }⟩
theorem own : ownKnob Tryd.prog.godebug = none := by kernel_rfl
theorem Tryd.laidOutL : laidOutB Tryd.prog = true := by kernel_rfl
set_option maxHeartbeats 1600000 in
set_option maxRecDepth 100000 in
theorem planParses_lifted (os : Os) (started : os.Started) (H : Type) (enc : TypeId × Value → H) :
    ReturnsInHanded {} Tryd.checked os 4 .any (fun w args => (Rows.planParsesSpec.pre enc Tryd.prog Tryd.f4 Rows.planParsesRow.domain false w args ∧ laidMetH Tryd.prog Rows.planParsesRow.laid w) ∧ sizedMet enc Tryd.prog Tryd.f4 (OpenSpec.ofChange Rows.planParsesSpec) false w args)
      (Rows.planParsesSpec.post enc Tryd.prog Tryd.f4 false true false false) := by
  refine returnsInHanded_of_change_and (C := Tryd.checked) (X := fun w _ => laidMetH Tryd.prog Rows.planParsesRow.laid w) (fun _ _ _ hh h => h.of_heap hh) own started (by kernel_rfl) Tryd.func4
    (ChangeSpec.witness_shaped (enc := enc) (C := Tryd.checked) (os := os) (X := fun w _ => laidMetH Tryd.prog Rows.planParsesRow.laid w) false (World.laidAll Tryd.prog os Rows.planParsesRow.laid) #[.string ⟨#[]⟩] 8 (World.laidAll_os _ _ _)
      (World.shaped_of_ZipB (by kernel_rfl) (by kernel_rfl)) (by kernel_rfl) (by kernel_rfl) (by kernel_rfl)
      (by rw [MakeChecks.laidMetH_plain _ _ _ (by kernel_rfl)]; exact laidMet_laidAll _ (by kernel_rfl) (by kernel_rfl))) ?_
  intro W base args ds gs before hval0 hW hc _ hL _
  have hval : ∀ (j : Nat) t v, Tryd.f4.params[j]? = some t → args[j]? = some v → Value.okWide Tryd.prog W .any base t v := hval0
  have hW' := hW
  obtain ⟨p, q, hA0, hV, rfl, _, _⟩ := hW
  have hA : DataW.TrodAll enc Tryd.prog W 0 (fun _ => true) true Tryd.f4.params.toList args.toList ds p := hA0
  rw [Tryd.params4] at hA hval
  obtain ⟨v0, d0, rfl, rfl, t0⟩ := trodAll_one hA
  obtain ⟨rfl, rfl⟩ := trodVars_none hV
  clear hA0 hval0
  simp only [List.append_nil] at hW'
  have hlt : ∀ x ∈ p, x.block < W.heap.size := fun x hx => hW'.lt x (by simpa using hx)
  have hargs0 : ∀ (W' : World), Below W.heap.size W W' → DataW.Trod enc Tryd.prog W' 0 (fun b => decide (b < W.heap.size)) true 9 v0 d0 p :=
    fun W' hn => Below.trod Tryd.laidOutL (by kernel_rfl) (of_decide_eq_true (by kernel_rfl)) t0 hn fun x hx => hlt x (by simp [hx])
  obtain ⟨w0, hI0, hR0, hF0⟩ := open_flat (E0 W) (show flatT Tryd.prog 9 = some (false, [.str]) by kernel_rfl) (hval 0 9 v0 rfl rfl) t0
  obtain ⟨y0, e0⟩ : ∃ y, mk false w0 = enc_str y := by obtain ⟨_, _, rfl, ⟨n0, rfl⟩, rfl⟩ := hI0; exact ⟨n0, rfl⟩
  rw [e0] at hR0 hF0
  refine (planParses_call W hL _ y0 hR0 hF0).mono fun e W' ⟨he, hB⟩ => ?_
  subst he
  exact ⟨_, rfl, _, _, _, [], p, [], hW', trodAll_mk1 (shut_bool Tryd.underlying4 true), trodAll_mk1 (hargs0 W' hB), rfl, hB.frame _, fun h => by cases h⟩
theorem planParses_holds : Rows.PlanParsesSaid :=
  OpenClaim.holds_of_wide 4 Tryd.f4 rfl rfl rfl rfl rfl rfl rfl ⟨rfl, rfl, rfl, rfl, rfl⟩ rfl rfl rfl rfl rfl (by kernel_rfl) Tryd.func4 (by kernel_rfl)
    (of_decide_eq_true (by kernel_rfl)) (by unfold Func.isWrapper; first | (rw [if_pos (by decide +kernel)]; kernel_rfl) | (rw [if_neg (by decide +kernel)]; exact ⟨rfl, rfl⟩))
    (fun os started H enc _ => planParses_lifted os started H enc)
theorem planParses_card_holds : Rows.PlanParsesCardSaid :=
  Claim7.holds_tied_plain_at .later [] [.data, .pinned] true (true, "7426c96d17a2a5d9ed15d7d41618cc1fb566f1cf9fc2cc14d49d7fc9e7d92d33") true planParses_holds (fun _ h => by cases h) (by kernel_rfl) (fun _ h => by cases h) planParses_row_tie rfl ⟨rfl, rfl⟩ (by kernel_rfl) rfl
    (fun f fn hf hfn => by
      obtain rfl : f = 4 := Option.some.inj ((show Tryd.prog.funcNamed "packhorse/packhorselaw22.PlanParses" = some 4 by kernel_rfl).symm.trans hf) |>.symm
      obtain rfl : fn = Tryd.f4 := (Option.some.inj (Tryd.func4.symm.trans hfn)).symm
      exact ⟨by kernel_rfl, fun j t ht => by
        rw [Tryd.params4] at ht
        have hm : t ∈ [9] := by simpa using Array.mem_of_getElem? ht
        have hall : ([9].all fun u => !Tryd.prog.wantsStandIn u) = true := by kernel_rfl
        exact (show Tryd.prog.wantsStandIn t = false by simpa using List.all_eq_true.1 hall t hm)⟩)
    (by kernel_rfl)
#print axioms planParses_card_holds
end Go.Proofs.YtjcbpfhlgebgdaaDoor
