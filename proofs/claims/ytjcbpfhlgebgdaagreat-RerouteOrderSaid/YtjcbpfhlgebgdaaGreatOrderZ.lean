import Derived.Test.YtjcbpfhlgebgdaaGreatRows
import Derived.Test.YtjcbpfhlgebgdaaGreatP32o
import Derived.Test.YtjcbpfhlgebgdaaGreatXO
import Derived.ProofKit
import Derived.OpenShut
import Derived.LaidMore
import Derived.Lay
import Derived.SizedLaws
import Derived.ChangeBears2
set_option linter.unusedSimpArgs false
set_option linter.unusedVariables false
namespace Go.Proofs.YtjcbpfhlgebgdaaGreat
open Go.ChangeShapes Go.WideShapes Go.ChangeAt Go.RowKit Go.Eng Go.X
theorem rerouteOrder_call (W : World) (x0 x1 : Value) (y0 : List (Int)) (y1 : Int) (h0 : Eng.R (E0 W) (enc_l_i64 y0) x0) (h1 : Eng.R (E0 W) (enc_i64 y1) x1) (f0 : fit (enc_l_i64 y0)) (f1 : fit (enc_i64 y1)) :
  Calls Tryz.prog 4 #[x0, x1] W fun e w' => e = .returned (.bool true) ∧ Below W.heap.size W w' := by
 have hF : Go.Eng.Fn Tryz.prog 4 [enc_l_i64 y0, enc_i64 y1] [] (.bool true) [] := packhorselaw32_RerouteOrder.fn (y0, y1) true ((rerouteOrder_w y0 y1).eq)
 refine (hF W _ (fun _ => none) #[x0, x1] ⟨fun _ _ h => h, fun g vs h => by cases h⟩ (by simp only [RL]; exact ⟨x0, _, rfl, h0, ⟨x1, _, rfl, h1, rfl⟩⟩) (fun i B h => by simp at h) (fun i j b h => by cases h) (fun _ _ => rfl)).mono fun e w' ⟨v, pr', he, hr, _, hleft⟩ => ?_
 simp only [Eng.R] at hr
 exact ⟨by rw [he, hr], { os := hleft.os, tape := hleft.tape, output := hleft.output, size := hleft.size, block := fun k hk => hleft.block k hk (by simp) }⟩
theorem own : ownKnob Tryz.prog.godebug = none := by kernel_rfl
theorem Tryz.laidOutL : laidOutB Tryz.prog = true := by kernel_rfl
set_option maxHeartbeats 1600000 in
set_option maxRecDepth 100000 in
theorem rerouteOrder_lifted (os : Os) (started : os.Started) (H : Type) (enc : TypeId × Value → H) :
  ReturnsInHanded {} Tryz.checked os 4 .any (Rows.rerouteOrderSpec.pre6 enc Tryz.prog Tryz.f4 Rows.rerouteOrderRow.domain false) (Rows.rerouteOrderSpec.post enc Tryz.prog Tryz.f4 false true false false) := by
 refine returnsInHanded_of_change (C := Tryz.checked) own started (by kernel_rfl) Tryz.func4
  (ChangeSpec.witness6 (enc := enc) (C := Tryz.checked) false ⟨#[], #[.slice none 0 0, .int .i64 0], []⟩ 8 (by kernel_rfl) (by kernel_rfl) (by kernel_rfl) (by kernel_rfl)) ?_
 intro W base args ds gs before hval0 hW hcnd _
 have hval : ∀ (j : Nat) t v, Tryz.f4.params[j]? = some t → args[j]? = some v → Value.okWide Tryz.prog W .any base t v := hval0
 have hW' := hW
 obtain ⟨p, q, hA0, hV, rfl, _, _⟩ := hW
 have hA : DataW.TrodAll enc Tryz.prog W 0 (fun _ => true) true Tryz.f4.params.toList args.toList ds p := hA0
 rw [Tryz.params4] at hA hval
 obtain ⟨v0, v1, d0, d1, p0, p1, rfl, rfl, rfl, t0, t1⟩ := trodAll_two hA
 obtain ⟨rfl, rfl⟩ := trodVars_none hV
 clear hA0 hval0
 simp only [List.append_nil] at hW'
 have hlt : ∀ x ∈ (p0 ++ p1), x.block < W.heap.size := fun x hx => by simpa using hW'.lt x hx
 have hargs0 : ∀ (W' : World), Below W.heap.size W W' → DataW.Trod enc Tryz.prog W' 0 (fun b => decide (b < W.heap.size)) true 36 v0 d0 p0 :=
  fun W' hn => Below.trod Tryz.laidOutL (by kernel_rfl) (of_decide_eq_true (by kernel_rfl)) t0 hn fun x hx => hlt x (by simp [hx])
 have hargs1 : ∀ (W' : World), Below W.heap.size W W' → DataW.Trod enc Tryz.prog W' 0 (fun b => decide (b < W.heap.size)) true 3 v1 d1 p1 :=
  fun W' hn => Below.trod Tryz.laidOutL (by kernel_rfl) (of_decide_eq_true (by kernel_rfl)) t1 hn fun x hx => hlt x (by simp [hx])
 obtain ⟨r0, hR0, hF0, hI0⟩ := open_list Tryz.underlying36 (show flatT Tryz.prog 3 = some (false, [.int .i64]) by kernel_rfl) (hval 0 36 v0 rfl rfl) t0
 obtain ⟨y0, rfl⟩ := map_of (f := enc_i64) (fun r ⟨vs, e, hl⟩ => by subst e; obtain ⟨_, _, rfl, ⟨n0, rfl⟩, rfl⟩ := hl; exact ⟨n0, rfl⟩) r0 hI0
 obtain ⟨w1, hI1, hR1, hF1⟩ := open_flat (E0 W) (show flatT Tryz.prog 3 = some (false, [.int .i64]) by kernel_rfl) (hval 1 3 v1 rfl rfl) t1
 obtain ⟨y1, e1⟩ : ∃ y, mk false w1 = enc_i64 y := by obtain ⟨_, _, rfl, ⟨n0, rfl⟩, rfl⟩ := hI1; exact ⟨n0, rfl⟩
 rw [e1] at hR1 hF1
 refine (rerouteOrder_call W _ _ y0 y1 hR0 hR1 hF0 hF1).mono fun e W' ⟨he, hB⟩ => ?_
 subst he
 exact ⟨_, rfl, _, _, _, [], p0 ++ p1, [], hW', trodAll_mk1 (shut_bool Tryz.underlying4 true), trodAll_mk2 (hargs0 W' hB) (hargs1 W' hB), rfl, hB.frame _, fun h => by cases h⟩
theorem rerouteOrder_holds : Rows.RerouteOrderSaid :=
 OpenClaim.holds_of_wide 4 Tryz.f4 rfl rfl rfl rfl rfl rfl rfl ⟨rfl, rfl, rfl, rfl, rfl⟩ rfl rfl rfl rfl rfl (by kernel_rfl) Tryz.func4 (by kernel_rfl)
  (of_decide_eq_true (by kernel_rfl)) (by unfold Func.isWrapper; first | (rw [if_pos (by decide +kernel)]; kernel_rfl) | (rw [if_neg (by decide +kernel)]; exact ⟨rfl, rfl⟩))
  (fun os started H enc _ => rerouteOrder_lifted os started H enc)
#print axioms rerouteOrder_holds
end Go.Proofs.YtjcbpfhlgebgdaaGreat
