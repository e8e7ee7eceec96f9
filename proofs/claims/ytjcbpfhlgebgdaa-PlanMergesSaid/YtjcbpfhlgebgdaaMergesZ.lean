/- The statement Rows.PlanMergesSaid is proved: PlanMerges returns true whatever its arguments, and leaves everything as it was. plan.Merge and the reference give the same union of two plans, or the same error (every argument) -/
import Derived.Test.YtjcbpfhlgebgdaaRows
import Derived.Test.YtjcbpfhlgebgdaaPMr
import Derived.Test.YtjcbpfhlgebgdaaXO
import Derived.ProofKit
import Derived.OpenShut
import Derived.LaidMore
import Derived.Lay
import Derived.SizedLaws
import Derived.ChangeBears2
namespace Go.Proofs.Ytjcbpfhlgebgdaa
open Go.ChangeShapes Go.WideShapes Go.ChangeAt Go.RowKit Go.Eng Go.X
set_option linter.unusedVariables false
set_option linter.unusedSimpArgs false
/-- The call. -/
theorem planMerges_call (W : World) (x0 x1 : Value) (y0 : List (Contact)) (y1 : List (Contact)) (h0 : Eng.R (E0 W) (enc_l_Contact y0) x0) (h1 : Eng.R (E0 W) (enc_l_Contact y1) x1) (f0 : fit (enc_l_Contact y0)) (f1 : fit (enc_l_Contact y1)) :
    Calls Try.prog 3 #[x0, x1] W fun e w' => e = .returned (.bool true) ∧ Below W.heap.size W w' := by
  have hF : Go.Eng.Fn Try.prog 3 [enc_l_Contact y0, enc_l_Contact y1] [] (.bool true) [] := packhorselaw22_PlanMerges.fn (y0, y1) true (planMerges_w y0 y1)
  refine (hF W _ (fun _ => none) #[x0, x1] ⟨fun _ _ h => h, fun g vs h => by cases h⟩ (by simp only [RL]; exact ⟨x0, _, rfl, h0, ⟨x1, _, rfl, h1, rfl⟩⟩) (fun i B h => by simp at h) (fun i j b h => by cases h) (fun _ _ => rfl)).mono fun e w' ⟨v, pr', he, hr, _, hleft⟩ => ?_
  simp only [Eng.R] at hr
  exact ⟨by rw [he, hr], { os := hleft.os, tape := hleft.tape, output := hleft.output, size := hleft.size, block := fun k hk => hleft.block k hk (by simp) }⟩

theorem own : ownKnob Try.prog.godebug = none := by kernel_rfl
theorem Try.laidOutL : laidOutB Try.prog = true := by kernel_rfl
set_option maxHeartbeats 1600000 in
set_option maxRecDepth 100000 in
theorem planMerges_lifted (os : Os) (started : os.Started) (H : Type) (enc : TypeId × Value → H) :
    ReturnsInHanded {} Try.checked os 3 .any (Rows.planMergesSpec.pre6 enc Try.prog Try.f3 Rows.planMergesRow.domain false) (Rows.planMergesSpec.post enc Try.prog Try.f3 false true false false) := by
  refine returnsInHanded_of_change (C := Try.checked) own started (by kernel_rfl) Try.func3
    (ChangeSpec.witness6 (enc := enc) (C := Try.checked) false ⟨#[], #[.slice none 0 0, .slice none 0 0], []⟩ 8 (by kernel_rfl) (by kernel_rfl) (by kernel_rfl) (by kernel_rfl)) ?_
  intro W base args ds gs before hval0 hW hcnd _
  have hval : ∀ (j : Nat) t v, Try.f3.params[j]? = some t → args[j]? = some v → Value.okWide Try.prog W .any base t v := hval0
  have hW' := hW
  obtain ⟨p, q, hA0, hV, rfl, _, _⟩ := hW
  have hA : DataW.TrodAll enc Try.prog W 0 (fun _ => true) true Try.f3.params.toList args.toList ds p := hA0
  rw [Try.params3] at hA hval
  obtain ⟨v0, v1, d0, d1, p0, p1, rfl, rfl, rfl, t0, t1⟩ := trodAll_two hA
  obtain ⟨rfl, rfl⟩ := trodVars_none hV
  clear hA0 hval0
  simp only [List.append_nil] at hW'
  have hlt : ∀ x ∈ (p0 ++ p1), x.block < W.heap.size := fun x hx => hW'.lt x (by simpa using hx)
  have hargs0 : ∀ (W' : World), Below W.heap.size W W' → DataW.Trod enc Try.prog W' 0 (fun b => decide (b < W.heap.size)) true 22 v0 d0 p0 :=
    fun W' hn => Below.trod Try.laidOutL (by kernel_rfl) (of_decide_eq_true (by kernel_rfl)) t0 hn fun x hx => hlt x (by simp [hx])
  have hargs1 : ∀ (W' : World), Below W.heap.size W W' → DataW.Trod enc Try.prog W' 0 (fun b => decide (b < W.heap.size)) true 22 v1 d1 p1 :=
    fun W' hn => Below.trod Try.laidOutL (by kernel_rfl) (of_decide_eq_true (by kernel_rfl)) t1 hn fun x hx => hlt x (by simp [hx])
  obtain ⟨r0, hR0, hF0, hI0⟩ := open_list Try.underlying22 (show flatT Try.prog 35 = some (true, [.int .i64, .int .i64, .int .i64, .int .i64, .int .i64, .int .i64]) by kernel_rfl) (hval 0 22 v0 rfl rfl) t0
  obtain ⟨y0, rfl⟩ := map_of (f := enc_Contact) (fun r ⟨vs, e, hl⟩ => by subst e; obtain ⟨_, _, rfl, ⟨n0, rfl⟩, _, _, rfl, ⟨n1, rfl⟩, _, _, rfl, ⟨n2, rfl⟩, _, _, rfl, ⟨n3, rfl⟩, _, _, rfl, ⟨n4, rfl⟩, _, _, rfl, ⟨n5, rfl⟩, rfl⟩ := hl; exact ⟨⟨n0, n1, n2, n3, n4, n5⟩, rfl⟩) r0 hI0
  obtain ⟨r1, hR1, hF1, hI1⟩ := open_list Try.underlying22 (show flatT Try.prog 35 = some (true, [.int .i64, .int .i64, .int .i64, .int .i64, .int .i64, .int .i64]) by kernel_rfl) (hval 1 22 v1 rfl rfl) t1
  obtain ⟨y1, rfl⟩ := map_of (f := enc_Contact) (fun r ⟨vs, e, hl⟩ => by subst e; obtain ⟨_, _, rfl, ⟨n0, rfl⟩, _, _, rfl, ⟨n1, rfl⟩, _, _, rfl, ⟨n2, rfl⟩, _, _, rfl, ⟨n3, rfl⟩, _, _, rfl, ⟨n4, rfl⟩, _, _, rfl, ⟨n5, rfl⟩, rfl⟩ := hl; exact ⟨⟨n0, n1, n2, n3, n4, n5⟩, rfl⟩) r1 hI1
  refine (planMerges_call W _ _ y0 y1 hR0 hR1 hF0 hF1).mono fun e W' ⟨he, hB⟩ => ?_
  subst he
  exact ⟨_, rfl, _, _, _, [], p0 ++ p1, [], hW', trodAll_mk1 (shut_bool Try.underlying4 true), trodAll_mk2 (hargs0 W' hB) (hargs1 W' hB), rfl, hB.frame _, fun h => by cases h⟩

/-- The statement. -/
theorem planMerges_holds : Rows.PlanMergesSaid :=
  OpenClaim.holds_of_wide 3 Try.f3 rfl rfl rfl rfl rfl rfl rfl ⟨rfl, rfl, rfl, rfl, rfl⟩ rfl rfl rfl rfl rfl (by kernel_rfl) Try.func3 (by kernel_rfl)
    (of_decide_eq_true (by kernel_rfl)) (by unfold Func.isWrapper; first | (rw [if_pos (by decide +kernel)]; kernel_rfl) | (rw [if_neg (by decide +kernel)]; exact ⟨rfl, rfl⟩))
    (fun os started H enc _ => planMerges_lifted os started H enc)
#print axioms planMerges_holds
end Go.Proofs.Ytjcbpfhlgebgdaa
