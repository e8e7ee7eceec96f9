import Derived.Test.YtjcbpfhlgebgdaaGreatRows
import Derived.Test.YtjcbpfhlgebgdaaGreatP32c
import Derived.Test.YtjcbpfhlgebgdaaGreatXO
import Derived.ProofKit
import Derived.OpenShut
import Derived.LaidMore
import Derived.Lay
import Derived.SizedLaws
import Derived.ChangeBears2
set_option linter.unusedSimpArgs false
set_option linter.unusedVariables false
namespace Go.Proofs.YtjcbpfhlgebgdaaGreat
open Go.ChangeShapes Go.WideShapes Go.ChangeAt Go.RowKit Go.Eng Go.X
theorem rerouteChanges_call (W : World) (x0 x1 x2 x3 x4 : Value) (y0 : List (Denial)) (y1 : ID) (y2 : Int) (y3 : Int) (y4 : Int) (h0 : Eng.R (E0 W) (enc_l_Denial y0) x0) (h1 : Eng.R (E0 W) (enc_ID y1) x1) (h2 : Eng.R (E0 W) (enc_i64 y2) x2) (h3 : Eng.R (E0 W) (enc_i64 y3) x3) (h4 : Eng.R (E0 W) (enc_i64 y4) x4) (f0 : fit (enc_l_Denial y0)) (f1 : fit (enc_ID y1)) (f2 : fit (enc_i64 y2)) (f3 : fit (enc_i64 y3)) (f4 : fit (enc_i64 y4)) :
  Calls Tryz.prog 3 #[x0, x1, x2, x3, x4] W fun e w' => e = .returned (.bool true) ∧ Below W.heap.size W w' := by
 have hF : Go.Eng.Fn Tryz.prog 3 [enc_l_Denial y0, enc_ID y1, enc_i64 y2, enc_i64 y3, enc_i64 y4] [] (.bool true) [] := packhorselaw32_RerouteChanges.fn (y0, y1, y2, y3, y4) true ((rerouteChanges_w y0 y1 y2 y3 y4).eq)
 refine (hF W _ (fun _ => none) #[x0, x1, x2, x3, x4] ⟨fun _ _ h => h, fun g vs h => by cases h⟩ (by simp only [RL]; exact ⟨x0, _, rfl, h0, ⟨x1, _, rfl, h1, ⟨x2, _, rfl, h2, ⟨x3, _, rfl, h3, ⟨x4, _, rfl, h4, rfl⟩⟩⟩⟩⟩) (fun i B h => by simp at h) (fun i j b h => by cases h) (fun _ _ => rfl)).mono fun e w' ⟨v, pr', he, hr, _, hleft⟩ => ?_
 simp only [Eng.R] at hr
 exact ⟨by rw [he, hr], { os := hleft.os, tape := hleft.tape, output := hleft.output, size := hleft.size, block := fun k hk => hleft.block k hk (by simp) }⟩
theorem own : ownKnob Tryz.prog.godebug = none := by kernel_rfl
theorem Tryz.laidOutL : laidOutB Tryz.prog = true := by kernel_rfl
set_option maxHeartbeats 1600000 in
set_option maxRecDepth 100000 in
theorem rerouteChanges_lifted (os : Os) (started : os.Started) (H : Type) (enc : TypeId × Value → H) :
  ReturnsInHanded {} Tryz.checked os 3 .any (Rows.rerouteChangesSpec.pre6 enc Tryz.prog Tryz.f3 Rows.rerouteChangesRow.domain false) (Rows.rerouteChangesSpec.post enc Tryz.prog Tryz.f3 false true false false) := by
 refine returnsInHanded_of_change (C := Tryz.checked) own started (by kernel_rfl) Tryz.func3
  (ChangeSpec.witness6 (enc := enc) (C := Tryz.checked) false ⟨#[], #[.slice none 0 0, .agg #[.int .i64 0, .int .u64 0, .int .i64 0], .int .i64 0, .int .i64 0, .int .i64 0], []⟩ 8 (by kernel_rfl) (by kernel_rfl) (by kernel_rfl) (by kernel_rfl)) ?_
 intro W base args ds gs before hval0 hW hcnd _
 have hval : ∀ (j : Nat) t v, Tryz.f3.params[j]? = some t → args[j]? = some v → Value.okWide Tryz.prog W .any base t v := hval0
 have hW' := hW
 obtain ⟨p, q, hA0, hV, rfl, _, _⟩ := hW
 have hA : DataW.TrodAll enc Tryz.prog W 0 (fun _ => true) true Tryz.f3.params.toList args.toList ds p := hA0
 rw [Tryz.params3] at hA hval
 obtain ⟨v0, vs0, d0, ds0, p0, q0, e0, rfl, rfl, t0, r0⟩ := trodAll_cons hA
 obtain ⟨v1, vs1, d1, ds1, p1, q1, e1, rfl, rfl, t1, r1⟩ := trodAll_cons r0
 obtain ⟨v2, vs2, d2, ds2, p2, q2, e2, rfl, rfl, t2, r2⟩ := trodAll_cons r1
 obtain ⟨v3, vs3, d3, ds3, p3, q3, e3, rfl, rfl, t3, r3⟩ := trodAll_cons r2
 obtain ⟨v4, vs4, d4, ds4, p4, q4, e4, rfl, rfl, t4, r4⟩ := trodAll_cons r3
 obtain ⟨e5, rfl, rfl⟩ := trodAll_nil r4
 subst e5
 subst e4
 subst e3
 subst e2
 subst e1
 obtain rfl : args = #[v0, v1, v2, v3, v4] := by cases args; simp_all
 obtain ⟨rfl, rfl⟩ := trodVars_none hV
 clear hA0 hval0
 simp only [List.append_nil] at hW'
 have hlt : ∀ x ∈ (p0 ++ (p1 ++ (p2 ++ (p3 ++ (p4))))), x.block < W.heap.size := fun x hx => hW'.lt x (by simpa using hx)
 have hargs0 : ∀ (W' : World), Below W.heap.size W W' → DataW.Trod enc Tryz.prog W' 0 (fun b => decide (b < W.heap.size)) true 22 v0 d0 p0 :=
  fun W' hn => Below.trod Tryz.laidOutL (by kernel_rfl) (of_decide_eq_true (by kernel_rfl)) t0 hn fun x hx => hlt x (by simp [hx])
 have hargs1 : ∀ (W' : World), Below W.heap.size W W' → DataW.Trod enc Tryz.prog W' 0 (fun b => decide (b < W.heap.size)) true 25 v1 d1 p1 :=
  fun W' hn => Below.trod Tryz.laidOutL (by kernel_rfl) (of_decide_eq_true (by kernel_rfl)) t1 hn fun x hx => hlt x (by simp [hx])
 have hargs2 : ∀ (W' : World), Below W.heap.size W W' → DataW.Trod enc Tryz.prog W' 0 (fun b => decide (b < W.heap.size)) true 3 v2 d2 p2 :=
  fun W' hn => Below.trod Tryz.laidOutL (by kernel_rfl) (of_decide_eq_true (by kernel_rfl)) t2 hn fun x hx => hlt x (by simp [hx])
 have hargs3 : ∀ (W' : World), Below W.heap.size W W' → DataW.Trod enc Tryz.prog W' 0 (fun b => decide (b < W.heap.size)) true 3 v3 d3 p3 :=
  fun W' hn => Below.trod Tryz.laidOutL (by kernel_rfl) (of_decide_eq_true (by kernel_rfl)) t3 hn fun x hx => hlt x (by simp [hx])
 have hargs4 : ∀ (W' : World), Below W.heap.size W W' → DataW.Trod enc Tryz.prog W' 0 (fun b => decide (b < W.heap.size)) true 3 v4 d4 p4 :=
  fun W' hn => Below.trod Tryz.laidOutL (by kernel_rfl) (of_decide_eq_true (by kernel_rfl)) t4 hn fun x hx => hlt x (by simp [hx])
 obtain ⟨r0, hR0, hF0, hI0⟩ := open_list Tryz.underlying22 (show flatT Tryz.prog 50 = some (true, [.int .i64, .int .u64, .int .i64, .int .i64, .int .i64]) by kernel_rfl) (hval 0 22 v0 rfl rfl) t0
 obtain ⟨y0, rfl⟩ := map_of (f := enc_Denial) (fun r ⟨vs, e, hl⟩ => by subst e; obtain ⟨_, _, rfl, ⟨n0, rfl⟩, _, _, rfl, ⟨n1, rfl⟩, _, _, rfl, ⟨n2, rfl⟩, _, _, rfl, ⟨n3, rfl⟩, _, _, rfl, ⟨n4, rfl⟩, rfl⟩ := hl; exact ⟨⟨⟨n0, n1, n2⟩, n3, n4⟩, rfl⟩) r0 hI0
 obtain ⟨w1, hI1, hR1, hF1⟩ := open_flat (E0 W) (show flatT Tryz.prog 25 = some (true, [.int .i64, .int .u64, .int .i64]) by kernel_rfl) (hval 1 25 v1 rfl rfl) t1
 obtain ⟨y1, e1⟩ : ∃ y, mk true w1 = enc_ID y := by obtain ⟨_, _, rfl, ⟨n0, rfl⟩, _, _, rfl, ⟨n1, rfl⟩, _, _, rfl, ⟨n2, rfl⟩, rfl⟩ := hI1; exact ⟨⟨n0, n1, n2⟩, rfl⟩
 rw [e1] at hR1 hF1
 obtain ⟨w2, hI2, hR2, hF2⟩ := open_flat (E0 W) (show flatT Tryz.prog 3 = some (false, [.int .i64]) by kernel_rfl) (hval 2 3 v2 rfl rfl) t2
 obtain ⟨y2, e2⟩ : ∃ y, mk false w2 = enc_i64 y := by obtain ⟨_, _, rfl, ⟨n0, rfl⟩, rfl⟩ := hI2; exact ⟨n0, rfl⟩
 rw [e2] at hR2 hF2
 obtain ⟨w3, hI3, hR3, hF3⟩ := open_flat (E0 W) (show flatT Tryz.prog 3 = some (false, [.int .i64]) by kernel_rfl) (hval 3 3 v3 rfl rfl) t3
 obtain ⟨y3, e3⟩ : ∃ y, mk false w3 = enc_i64 y := by obtain ⟨_, _, rfl, ⟨n0, rfl⟩, rfl⟩ := hI3; exact ⟨n0, rfl⟩
 rw [e3] at hR3 hF3
 obtain ⟨w4, hI4, hR4, hF4⟩ := open_flat (E0 W) (show flatT Tryz.prog 3 = some (false, [.int .i64]) by kernel_rfl) (hval 4 3 v4 rfl rfl) t4
 obtain ⟨y4, e4⟩ : ∃ y, mk false w4 = enc_i64 y := by obtain ⟨_, _, rfl, ⟨n0, rfl⟩, rfl⟩ := hI4; exact ⟨n0, rfl⟩
 rw [e4] at hR4 hF4
 refine (rerouteChanges_call W _ _ _ _ _ y0 y1 y2 y3 y4 hR0 hR1 hR2 hR3 hR4 hF0 hF1 hF2 hF3 hF4).mono fun e W' ⟨he, hB⟩ => ?_
 subst he
 exact ⟨_, rfl, _, _, _, [], p0 ++ (p1 ++ (p2 ++ (p3 ++ (p4)))), [], hW', trodAll_mk1 (shut_bool Tryz.underlying4 true), trodAll_cons_mk (hargs0 W' hB) (trodAll_cons_mk (hargs1 W' hB) (trodAll_cons_mk (hargs2 W' hB) (trodAll_cons_mk (hargs3 W' hB) (trodAll_mk1 (hargs4 W' hB))))), rfl, hB.frame _, fun h => by cases h⟩
theorem rerouteChanges_holds : Rows.RerouteChangesSaid :=
 OpenClaim.holds_of_wide 3 Tryz.f3 rfl rfl rfl rfl rfl rfl rfl ⟨rfl, rfl, rfl, rfl, rfl⟩ rfl rfl rfl rfl rfl (by kernel_rfl) Tryz.func3 (by kernel_rfl)
  (of_decide_eq_true (by kernel_rfl)) (by unfold Func.isWrapper; first | (rw [if_pos (by decide +kernel)]; kernel_rfl) | (rw [if_neg (by decide +kernel)]; exact ⟨rfl, rfl⟩))
  (fun os started H enc _ => rerouteChanges_lifted os started H enc)
#print axioms rerouteChanges_holds
end Go.Proofs.YtjcbpfhlgebgdaaGreat
