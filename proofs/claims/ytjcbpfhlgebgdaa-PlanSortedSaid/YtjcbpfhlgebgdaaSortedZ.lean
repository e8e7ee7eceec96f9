/- The statement Rows.PlanSortedSaid is proved: PlanSorted returns true whatever its arguments, and leaves everything as it was. plan.Sort of a made plan in any rotation is that plan; the union of two made plans does not depend on their order (every argument) -/
import Derived.Test.YtjcbpfhlgebgdaaRows
import Derived.Test.YtjcbpfhlgebgdaaPMs
import Derived.Test.YtjcbpfhlgebgdaaXO
import Derived.ProofKit
import Derived.OpenShut
import Derived.LaidMore
import Derived.Lay
import Derived.SizedLaws
import Derived.ChangeBears2
namespace Go.Proofs.Ytjcbpfhlgebgdaa
open Go.ChangeShapes Go.WideShapes Go.ChangeAt Go.RowKit Go.Eng Go.X
set_option linter.unusedVariables false
set_option linter.unusedSimpArgs false
/-- The call. -/
theorem planSorted_call (W : World) (x0 x1 x2 : Value) (y0 : List (Int)) (y1 : List (Int)) (y2 : Int) (h0 : Eng.R (E0 W) (enc_l_i64 y0) x0) (h1 : Eng.R (E0 W) (enc_l_i64 y1) x1) (h2 : Eng.R (E0 W) (enc_i64 y2) x2) (f0 : fit (enc_l_i64 y0)) (f1 : fit (enc_l_i64 y1)) (f2 : fit (enc_i64 y2)) :
    Calls Try.prog 5 #[x0, x1, x2] W fun e w' => e = .returned (.bool true) ∧ Below W.heap.size W w' := by
  have hF : Go.Eng.Fn Try.prog 5 [enc_l_i64 y0, enc_l_i64 y1, enc_i64 y2] [] (.bool true) [] := packhorselaw22_PlanSorted.fn (y0, y1, y2) true (planSorted_w (by have := f0.1; simp [maxLen] at this; omega) (by have := f1.1; simp [maxLen] at this; omega) y2)
  refine (hF W _ (fun _ => none) #[x0, x1, x2] ⟨fun _ _ h => h, fun g vs h => by cases h⟩ (by simp only [RL]; exact ⟨x0, _, rfl, h0, ⟨x1, _, rfl, h1, ⟨x2, _, rfl, h2, rfl⟩⟩⟩) (fun i B h => by simp at h) (fun i j b h => by cases h) (fun _ _ => rfl)).mono fun e w' ⟨v, pr', he, hr, _, hleft⟩ => ?_
  simp only [Eng.R] at hr
  exact ⟨by rw [he, hr], { os := hleft.os, tape := hleft.tape, output := hleft.output, size := hleft.size, block := fun k hk => hleft.block k hk (by simp) }⟩

theorem own : ownKnob Try.prog.godebug = none := by kernel_rfl
theorem Try.laidOutL : laidOutB Try.prog = true := by kernel_rfl
set_option maxHeartbeats 1600000 in
set_option maxRecDepth 100000 in
theorem planSorted_lifted (os : Os) (started : os.Started) (H : Type) (enc : TypeId × Value → H) :
    ReturnsInHanded {} Try.checked os 5 .any (Rows.planSortedSpec.pre6 enc Try.prog Try.f5 Rows.planSortedRow.domain false) (Rows.planSortedSpec.post enc Try.prog Try.f5 false true false false) := by
  refine returnsInHanded_of_change (C := Try.checked) own started (by kernel_rfl) Try.func5
    (ChangeSpec.witness6 (enc := enc) (C := Try.checked) false ⟨#[], #[.slice none 0 0, .slice none 0 0, .int .i64 0], []⟩ 8 (by kernel_rfl) (by kernel_rfl) (by kernel_rfl) (by kernel_rfl)) ?_
  intro W base args ds gs before hval0 hW hcnd _
  have hval : ∀ (j : Nat) t v, Try.f5.params[j]? = some t → args[j]? = some v → Value.okWide Try.prog W .any base t v := hval0
  have hW' := hW
  obtain ⟨p, q, hA0, hV, rfl, _, _⟩ := hW
  have hA : DataW.TrodAll enc Try.prog W 0 (fun _ => true) true Try.f5.params.toList args.toList ds p := hA0
  rw [Try.params5] at hA hval
  obtain ⟨v0, v1, v2, d0, d1, d2, p0, p1, p2, rfl, rfl, rfl, t0, t1, t2⟩ := trodAll_three hA
  obtain ⟨rfl, rfl⟩ := trodVars_none hV
  clear hA0 hval0
  simp only [List.append_nil] at hW'
  have hlt : ∀ x ∈ (p0 ++ p1 ++ p2), x.block < W.heap.size := fun x hx => hW'.lt x (by simpa using hx)
  have hargs0 : ∀ (W' : World), Below W.heap.size W W' → DataW.Trod enc Try.prog W' 0 (fun b => decide (b < W.heap.size)) true 29 v0 d0 p0 :=
    fun W' hn => Below.trod Try.laidOutL (by kernel_rfl) (of_decide_eq_true (by kernel_rfl)) t0 hn fun x hx => hlt x (by simp [hx])
  have hargs1 : ∀ (W' : World), Below W.heap.size W W' → DataW.Trod enc Try.prog W' 0 (fun b => decide (b < W.heap.size)) true 29 v1 d1 p1 :=
    fun W' hn => Below.trod Try.laidOutL (by kernel_rfl) (of_decide_eq_true (by kernel_rfl)) t1 hn fun x hx => hlt x (by simp [hx])
  have hargs2 : ∀ (W' : World), Below W.heap.size W W' → DataW.Trod enc Try.prog W' 0 (fun b => decide (b < W.heap.size)) true 3 v2 d2 p2 :=
    fun W' hn => Below.trod Try.laidOutL (by kernel_rfl) (of_decide_eq_true (by kernel_rfl)) t2 hn fun x hx => hlt x (by simp [hx])
  obtain ⟨r0, hR0, hF0, hI0⟩ := open_list Try.underlying29 (show flatT Try.prog 3 = some (false, [.int .i64]) by kernel_rfl) (hval 0 29 v0 rfl rfl) t0
  obtain ⟨y0, rfl⟩ := map_of (f := enc_i64) (fun r ⟨vs, e, hl⟩ => by subst e; obtain ⟨_, _, rfl, ⟨n0, rfl⟩, rfl⟩ := hl; exact ⟨n0, rfl⟩) r0 hI0
  obtain ⟨r1, hR1, hF1, hI1⟩ := open_list Try.underlying29 (show flatT Try.prog 3 = some (false, [.int .i64]) by kernel_rfl) (hval 1 29 v1 rfl rfl) t1
  obtain ⟨y1, rfl⟩ := map_of (f := enc_i64) (fun r ⟨vs, e, hl⟩ => by subst e; obtain ⟨_, _, rfl, ⟨n0, rfl⟩, rfl⟩ := hl; exact ⟨n0, rfl⟩) r1 hI1
  obtain ⟨w2, hI2, hR2, hF2⟩ := open_flat (E0 W) (show flatT Try.prog 3 = some (false, [.int .i64]) by kernel_rfl) (hval 2 3 v2 rfl rfl) t2
  obtain ⟨y2, e2⟩ : ∃ y, mk false w2 = enc_i64 y := by obtain ⟨_, _, rfl, ⟨n0, rfl⟩, rfl⟩ := hI2; exact ⟨n0, rfl⟩
  rw [e2] at hR2 hF2
  refine (planSorted_call W _ _ _ y0 y1 y2 hR0 hR1 hR2 hF0 hF1 hF2).mono fun e W' ⟨he, hB⟩ => ?_
  subst he
  exact ⟨_, rfl, _, _, _, [], p0 ++ (p1 ++ p2), [], hW', trodAll_mk1 (shut_bool Try.underlying4 true), trodAll_mk3 (hargs0 W' hB) (hargs1 W' hB) (hargs2 W' hB), rfl, hB.frame _, fun h => by cases h⟩

/-- The statement. -/
theorem planSorted_holds : Rows.PlanSortedSaid :=
  OpenClaim.holds_of_wide 5 Try.f5 rfl rfl rfl rfl rfl rfl rfl ⟨rfl, rfl, rfl, rfl, rfl⟩ rfl rfl rfl rfl rfl (by kernel_rfl) Try.func5 (by kernel_rfl)
    (of_decide_eq_true (by kernel_rfl)) (by unfold Func.isWrapper; first | (rw [if_pos (by decide +kernel)]; kernel_rfl) | (rw [if_neg (by decide +kernel)]; exact ⟨rfl, rfl⟩))
    (fun os started H enc _ => planSorted_lifted os started H enc)
#print axioms planSorted_holds
end Go.Proofs.Ytjcbpfhlgebgdaa
