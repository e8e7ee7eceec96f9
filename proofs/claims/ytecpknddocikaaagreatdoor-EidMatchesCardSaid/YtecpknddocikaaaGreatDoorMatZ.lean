import Derived.Test.YtecpknddocikaaaGreatDoorRows
import Derived.Test.YtecpknddocikaaaGreatDoorCards
import Derived.Test.YtecpknddocikaaaGreatDoorTie
import Derived.Test.YtecpknddocikaaaGreatDoorP5m
import Derived.Test.YtecpknddocikaaaGreatDoorXO
import Derived.Test.YtecpknddocikaaaGreatDoorHL
import Derived.ProofKit
import Derived.OpenShut
import Derived.LaidMore
import Derived.Lay
import Derived.SevenTiedAt
import Derived.Stop.Joined
import Derived.SizedLaws
import Derived.ChangeBears2
set_option linter.unusedSimpArgs false
set_option linter.unusedVariables false
namespace Go.Proofs.YtecpknddocikaaaGreatDoor
open Go.ChangeShapes Go.WideShapes Go.ChangeAt Go.RowKit Go.Eng Go.X
theorem eidMatches_call (W : World) (hL : laidMetH Tryz.prog Rows.eidMatchesRow.laid W) (x0 x1 x2 : Value) (y0 : List (EID)) (y1 : Int) (y2 : Int) (h0 : Eng.R (E0 W) (enc_l_EID y0) x0) (h1 : Eng.R (E0 W) (enc_i64 y1) x1) (h2 : Eng.R (E0 W) (enc_i64 y2) x2) (f0 : fit (enc_l_EID y0)) (f1 : fit (enc_i64 y1)) (f2 : fit (enc_i64 y2)) :
    Calls Tryz.prog 3 #[x0, x1, x2] W fun e w' => e = .returned (.bool true) ∧ Below W.heap.size W w' := by
  have hF : Go.Eng.Fn Tryz.prog 3 [enc_l_EID y0, enc_i64 y1, enc_i64 y2] [] (.bool true) [] := packhorselaw05_EidMatches.fn (y0, y1, y2) true (matches_w y0 y1 y2)
  refine (hF W _ (fun _ => none) #[x0, x1, x2] (hl_of_laid W hL rfl) (by simp only [RL]; exact ⟨x0, _, rfl, h0, ⟨x1, _, rfl, h1, ⟨x2, _, rfl, h2, rfl⟩⟩⟩) (fun i B h => by simp at h) (fun i j b h => by cases h) (fun _ _ => rfl)).mono fun e w' ⟨v, pr', he, hr, _, hleft⟩ => ?_
  simp only [Eng.R] at hr
  exact ⟨by rw [he, hr], { os := hleft.os, tape := hleft.tape, output := hleft.output, size := hleft.size, block := fun k hk => hleft.block k hk (by simp) }⟩
theorem own : ownKnob Tryz.prog.godebug = none := by kernel_rfl
theorem Tryz.laidOutL : laidOutB Tryz.prog = true := by kernel_rfl
set_option maxHeartbeats 1600000 in
set_option maxRecDepth 100000 in
theorem eidMatches_lifted (os : Os) (started : os.Started) (H : Type) (enc : TypeId × Value → H) :
    ReturnsInHanded {} Tryz.checked os 3 .any (fun w args => (Rows.eidMatchesSpec.pre enc Tryz.prog Tryz.f3 Rows.eidMatchesRow.domain false w args ∧ laidMetH Tryz.prog Rows.eidMatchesRow.laid w) ∧ sizedMet enc Tryz.prog Tryz.f3 (OpenSpec.ofChange Rows.eidMatchesSpec) false w args)
      (Rows.eidMatchesSpec.post enc Tryz.prog Tryz.f3 false true false false) := by
  refine returnsInHanded_of_change_and (C := Tryz.checked) (X := fun w _ => laidMetH Tryz.prog Rows.eidMatchesRow.laid w) (fun _ _ _ hh h => h.of_heap hh) own started (by kernel_rfl) Tryz.func3
    (ChangeSpec.witness_shaped (enc := enc) (C := Tryz.checked) (os := os) (X := fun w _ => laidMetH Tryz.prog Rows.eidMatchesRow.laid w) false (World.laidAll Tryz.prog os Rows.eidMatchesRow.laid) #[.slice none 0 0, .int .i64 0, .int .i64 0] 8 (World.laidAll_os _ _ _)
      (World.shaped_of_ZipB (by kernel_rfl) (by kernel_rfl)) (by kernel_rfl) (by kernel_rfl) (by kernel_rfl)
      (by rw [MakeChecks.laidMetH_plain _ _ _ (by kernel_rfl)]; exact laidMet_laidAll _ (by kernel_rfl) (by kernel_rfl))) ?_
  intro W base args ds gs before hval0 hW hc _ hL _
  have hval : ∀ (j : Nat) t v, Tryz.f3.params[j]? = some t → args[j]? = some v → Value.okWide Tryz.prog W .any base t v := hval0
  have hW' := hW
  obtain ⟨p, q, hA0, hV, rfl, _, _⟩ := hW
  have hA : DataW.TrodAll enc Tryz.prog W 0 (fun _ => true) true Tryz.f3.params.toList args.toList ds p := hA0
  rw [Tryz.params3] at hA hval
  obtain ⟨v0, v1, v2, d0, d1, d2, p0, p1, p2, rfl, rfl, rfl, t0, t1, t2⟩ := trodAll_three hA
  obtain ⟨rfl, rfl⟩ := trodVars_none hV
  clear hA0 hval0
  simp only [List.append_nil] at hW'
  have hlt : ∀ x ∈ (p0 ++ p1 ++ p2), x.block < W.heap.size := fun x hx => by simpa using hW'.lt x hx
  have hargs0 : ∀ (W' : World), Below W.heap.size W W' → DataW.Trod enc Tryz.prog W' 0 (fun b => decide (b < W.heap.size)) true 22 v0 d0 p0 :=
    fun W' hn => Below.trod Tryz.laidOutL (by kernel_rfl) (of_decide_eq_true (by kernel_rfl)) t0 hn fun x hx => hlt x (by simp [hx])
  have hargs1 : ∀ (W' : World), Below W.heap.size W W' → DataW.Trod enc Tryz.prog W' 0 (fun b => decide (b < W.heap.size)) true 3 v1 d1 p1 :=
    fun W' hn => Below.trod Tryz.laidOutL (by kernel_rfl) (of_decide_eq_true (by kernel_rfl)) t1 hn fun x hx => hlt x (by simp [hx])
  have hargs2 : ∀ (W' : World), Below W.heap.size W W' → DataW.Trod enc Tryz.prog W' 0 (fun b => decide (b < W.heap.size)) true 3 v2 d2 p2 :=
    fun W' hn => Below.trod Tryz.laidOutL (by kernel_rfl) (of_decide_eq_true (by kernel_rfl)) t2 hn fun x hx => hlt x (by simp [hx])
  obtain ⟨r0, hR0, hF0, hI0⟩ := open_list Tryz.underlying22 (show flatT Tryz.prog 40 = some (true, [.int .i64, .int .i64, .int .i64]) by kernel_rfl) (hval 0 22 v0 rfl rfl) t0
  obtain ⟨y0, rfl⟩ := map_of (f := enc_EID) (fun r ⟨vs, e, hl⟩ => by subst e; obtain ⟨_, _, rfl, ⟨n0, rfl⟩, _, _, rfl, ⟨n1, rfl⟩, _, _, rfl, ⟨n2, rfl⟩, rfl⟩ := hl; exact ⟨⟨n0, n1, n2⟩, rfl⟩) r0 hI0
  obtain ⟨w1, hI1, hR1, hF1⟩ := open_flat (E0 W) (show flatT Tryz.prog 3 = some (false, [.int .i64]) by kernel_rfl) (hval 1 3 v1 rfl rfl) t1
  obtain ⟨y1, e1⟩ : ∃ y, mk false w1 = enc_i64 y := by obtain ⟨_, _, rfl, ⟨n0, rfl⟩, rfl⟩ := hI1; exact ⟨n0, rfl⟩
  rw [e1] at hR1 hF1
  obtain ⟨w2, hI2, hR2, hF2⟩ := open_flat (E0 W) (show flatT Tryz.prog 3 = some (false, [.int .i64]) by kernel_rfl) (hval 2 3 v2 rfl rfl) t2
  obtain ⟨y2, e2⟩ : ∃ y, mk false w2 = enc_i64 y := by obtain ⟨_, _, rfl, ⟨n0, rfl⟩, rfl⟩ := hI2; exact ⟨n0, rfl⟩
  rw [e2] at hR2 hF2
  refine (eidMatches_call W hL _ _ _ y0 y1 y2 hR0 hR1 hR2 hF0 hF1 hF2).mono fun e W' ⟨he, hB⟩ => ?_
  subst he
  exact ⟨_, rfl, _, _, _, [], p0 ++ (p1 ++ p2), [], hW', trodAll_mk1 (shut_bool Tryz.underlying4 true), trodAll_mk3 (hargs0 W' hB) (hargs1 W' hB) (hargs2 W' hB), rfl, hB.frame _, fun h => by cases h⟩
theorem eidMatches_holds : Rows.EidMatchesSaid :=
  OpenClaim.holds_of_wide 3 Tryz.f3 rfl rfl rfl rfl rfl rfl rfl ⟨rfl, rfl, rfl, rfl, rfl⟩ rfl rfl rfl rfl rfl (by kernel_rfl) Tryz.func3 (by kernel_rfl)
    (of_decide_eq_true (by kernel_rfl)) (by unfold Func.isWrapper; first | (rw [if_pos (by decide +kernel)]; kernel_rfl) | (rw [if_neg (by decide +kernel)]; exact ⟨rfl, rfl⟩))
    (fun os started H enc _ => eidMatches_lifted os started H enc)
theorem eidMatches_card_holds : Rows.EidMatchesCardSaid :=
  Claim7.holds_tied_plain_at .later [] [.data, .data, .data, .data, .pinned] true (true, "cd2771e7637b92cc6e5cbb0025b050f6ba3e25a73ddc96672fc3bc44a8fcc0ff") false eidMatches_holds (fun _ h => by cases h) (by kernel_rfl) (fun _ h => by cases h) eidMatches_row_tie rfl ⟨rfl, rfl⟩ (by kernel_rfl) rfl
    (fun f fn hf hfn => by
      obtain rfl : f = 3 := Option.some.inj ((show Tryz.prog.funcNamed "packhorse/packhorselaw05.EidMatches" = some 3 by kernel_rfl).symm.trans hf) |>.symm
      obtain rfl : fn = Tryz.f3 := (Option.some.inj (Tryz.func3.symm.trans hfn)).symm
      exact ⟨by kernel_rfl, fun j t ht => by
        rw [Tryz.params3] at ht
        have hm : t ∈ [22, 3, 3] := by simpa using Array.mem_of_getElem? ht
        have hall : ([22, 3, 3].all fun u => !Tryz.prog.wantsStandIn u) = true := by kernel_rfl
        exact (show Tryz.prog.wantsStandIn t = false by simpa using List.all_eq_true.1 hall t hm)⟩)
    (by kernel_rfl)
#print axioms eidMatches_card_holds
end Go.Proofs.YtecpknddocikaaaGreatDoor
