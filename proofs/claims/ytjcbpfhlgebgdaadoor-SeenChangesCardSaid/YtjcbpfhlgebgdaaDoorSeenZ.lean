/- The statement Rows.SeenChangesCardSaid is proved: SeenChanges returns true whatever its arguments, and leaves everything as it was. The package-level variables that its row lists hold what the program's text lays; the tie is given. -/
import Derived.Test.YtjcbpfhlgebgdaaDoorRows
import Derived.Test.YtjcbpfhlgebgdaaDoorCards
import Derived.Test.YtjcbpfhlgebgdaaDoorTie
import Derived.Test.YtjcbpfhlgebgdaaDoorP16
import Derived.Test.YtjcbpfhlgebgdaaDoorHL
import Derived.Test.YtjcbpfhlgebgdaaDoorXO
import Derived.ProofKit
import Derived.OpenShut
import Derived.LaidMore
import Derived.Lay
import Derived.SevenTiedAt
import Derived.Stop.Joined
import Derived.SizedLaws
import Derived.ChangeBears2
set_option linter.unusedSimpArgs false
set_option linter.unusedVariables false
namespace Go.Proofs.YtjcbpfhlgebgdaaDoor
open Go.ChangeShapes Go.WideShapes Go.ChangeAt Go.RowKit Go.Eng Go.X
theorem seenChanges_call (W : World) (hL : laidMetH Tryd.prog Rows.seenChangesRow.laid W) (x0 x1 x2 x3 : Value) (y0 : List (Mrk)) (y1 : ID) (y2 : Int) (y3 : Int) (h0 : Eng.R (E0 W) (enc_l_Mrk y0) x0) (h1 : Eng.R (E0 W) (enc_ID y1) x1) (h2 : Eng.R (E0 W) (enc_i64 y2) x2) (h3 : Eng.R (E0 W) (enc_i64 y3) x3) (f0 : fit (enc_l_Mrk y0)) (f1 : fit (enc_ID y1)) (f2 : fit (enc_i64 y2)) (f3 : fit (enc_i64 y3)) :
  Calls Tryd.prog 8 #[x0, x1, x2, x3] W fun e w' => e = .returned (.bool true) ∧ Below W.heap.size W w' := by
 have hF : Go.Eng.Fn Tryd.prog 8 [enc_l_Mrk y0, enc_ID y1, enc_i64 y2, enc_i64 y3] [] (.bool true) [] := packhorselaw16_SeenChanges.fn (y0, y1, y2, y3) true ((seenChanges_w y0 y1 y2 y3).eq)
 refine (hF W _ (fun _ => none) #[x0, x1, x2, x3] (hl_of_laid W hL rfl) (by simp only [RL]; exact ⟨x0, _, rfl, h0, ⟨x1, _, rfl, h1, ⟨x2, _, rfl, h2, ⟨x3, _, rfl, h3, rfl⟩⟩⟩⟩) (fun i B h => by simp at h) (fun i j b h => by cases h) (fun _ _ => rfl)).mono fun e w' ⟨v, pr', he, hr, _, hleft⟩ => ?_
 simp only [Eng.R] at hr
 exact ⟨by rw [he, hr], { os := hleft.os, tape := hleft.tape, output := hleft.output, size := hleft.size, block := fun k hk => hleft.block k hk (by simp) }⟩
theorem own : ownKnob Tryd.prog.godebug = none := by kernel_rfl
theorem Tryd.laidOutL : laidOutB Tryd.prog = true := by kernel_rfl
set_option maxHeartbeats 1600000 in
set_option maxRecDepth 100000 in
theorem seenChanges_lifted (os : Os) (started : os.Started) (H : Type) (enc : TypeId × Value → H) :
  ReturnsInHanded {} Tryd.checked os 8 .any (fun w args => (Rows.seenChangesSpec.pre enc Tryd.prog Tryd.f8 Rows.seenChangesRow.domain false w args ∧ laidMetH Tryd.prog Rows.seenChangesRow.laid w) ∧ sizedMet enc Tryd.prog Tryd.f8 (OpenSpec.ofChange Rows.seenChangesSpec) false w args)
   (Rows.seenChangesSpec.post enc Tryd.prog Tryd.f8 false true false false) := by
 refine returnsInHanded_of_change_and (C := Tryd.checked) (X := fun w _ => laidMetH Tryd.prog Rows.seenChangesRow.laid w) (fun _ _ _ hh h => h.of_heap hh) own started (by kernel_rfl) Tryd.func8
  (ChangeSpec.witness_shaped (enc := enc) (C := Tryd.checked) (os := os) (X := fun w _ => laidMetH Tryd.prog Rows.seenChangesRow.laid w) false (World.laidAll Tryd.prog os Rows.seenChangesRow.laid) #[.slice none 0 0, .agg #[.int .i64 0, .int .u64 0, .int .i64 0], .int .i64 0, .int .i64 0] 8 (World.laidAll_os _ _ _)
   (World.shaped_of_ZipB (by kernel_rfl) (by kernel_rfl)) (by kernel_rfl) (by kernel_rfl) (by kernel_rfl)
   (by rw [MakeChecks.laidMetH_plain _ _ _ (by kernel_rfl)]; exact laidMet_laidAll _ (by kernel_rfl) (by kernel_rfl))) ?_
 intro W base args ds gs before hval0 hW hc _ hL _
 have hval : ∀ (j : Nat) t v, Tryd.f8.params[j]? = some t → args[j]? = some v → Value.okWide Tryd.prog W .any base t v := hval0
 have hW' := hW
 obtain ⟨p, q, hA0, hV, rfl, _, _⟩ := hW
 have hA : DataW.TrodAll enc Tryd.prog W 0 (fun _ => true) true Tryd.f8.params.toList args.toList ds p := hA0
 rw [Tryd.params8] at hA hval
 obtain ⟨v0, vs0, d0, ds0, p0, q0, e0, rfl, rfl, t0, r0⟩ := trodAll_cons hA
 obtain ⟨v1, vs1, d1, ds1, p1, q1, e1, rfl, rfl, t1, r1⟩ := trodAll_cons r0
 obtain ⟨v2, vs2, d2, ds2, p2, q2, e2, rfl, rfl, t2, r2⟩ := trodAll_cons r1
 obtain ⟨v3, vs3, d3, ds3, p3, q3, e3, rfl, rfl, t3, r3⟩ := trodAll_cons r2
 obtain ⟨e4, rfl, rfl⟩ := trodAll_nil r3
 subst e4
 subst e3
 subst e2
 subst e1
 obtain rfl : args = #[v0, v1, v2, v3] := by cases args; simp_all
 obtain ⟨rfl, rfl⟩ := trodVars_none hV
 clear hA0 hval0
 simp only [List.append_nil] at hW'
 have hlt : ∀ x ∈ (p0 ++ (p1 ++ (p2 ++ (p3)))), x.block < W.heap.size := fun x hx => hW'.lt x (by simpa using hx)
 have hargs0 : ∀ (W' : World), Below W.heap.size W W' → DataW.Trod enc Tryd.prog W' 0 (fun b => decide (b < W.heap.size)) true 55 v0 d0 p0 :=
  fun W' hn => Below.trod Tryd.laidOutL (by kernel_rfl) (of_decide_eq_true (by kernel_rfl)) t0 hn fun x hx => hlt x (by simp [hx])
 have hargs1 : ∀ (W' : World), Below W.heap.size W W' → DataW.Trod enc Tryd.prog W' 0 (fun b => decide (b < W.heap.size)) true 51 v1 d1 p1 :=
  fun W' hn => Below.trod Tryd.laidOutL (by kernel_rfl) (of_decide_eq_true (by kernel_rfl)) t1 hn fun x hx => hlt x (by simp [hx])
 have hargs2 : ∀ (W' : World), Below W.heap.size W W' → DataW.Trod enc Tryd.prog W' 0 (fun b => decide (b < W.heap.size)) true 3 v2 d2 p2 :=
  fun W' hn => Below.trod Tryd.laidOutL (by kernel_rfl) (of_decide_eq_true (by kernel_rfl)) t2 hn fun x hx => hlt x (by simp [hx])
 have hargs3 : ∀ (W' : World), Below W.heap.size W W' → DataW.Trod enc Tryd.prog W' 0 (fun b => decide (b < W.heap.size)) true 3 v3 d3 p3 :=
  fun W' hn => Below.trod Tryd.laidOutL (by kernel_rfl) (of_decide_eq_true (by kernel_rfl)) t3 hn fun x hx => hlt x (by simp [hx])
 obtain ⟨r0, hR0, hF0, hI0⟩ := open_list Tryd.underlying55 (show flatT Tryd.prog 130 = some (true, [.int .i64, .int .u64, .int .i64, .int .i64]) by kernel_rfl) (hval 0 55 v0 rfl rfl) t0
 obtain ⟨y0, rfl⟩ := map_of (f := enc_Mrk) (fun r ⟨vs, e, hl⟩ => by subst e; obtain ⟨_, _, rfl, ⟨n0, rfl⟩, _, _, rfl, ⟨n1, rfl⟩, _, _, rfl, ⟨n2, rfl⟩, _, _, rfl, ⟨n3, rfl⟩, rfl⟩ := hl; exact ⟨⟨⟨n0, n1, n2⟩, n3⟩, rfl⟩) r0 hI0
 obtain ⟨w1, hI1, hR1, hF1⟩ := open_flat (E0 W) (show flatT Tryd.prog 51 = some (true, [.int .i64, .int .u64, .int .i64]) by kernel_rfl) (hval 1 51 v1 rfl rfl) t1
 obtain ⟨y1, e1⟩ : ∃ y, mk true w1 = enc_ID y := by obtain ⟨_, _, rfl, ⟨n0, rfl⟩, _, _, rfl, ⟨n1, rfl⟩, _, _, rfl, ⟨n2, rfl⟩, rfl⟩ := hI1; exact ⟨⟨n0, n1, n2⟩, rfl⟩
 rw [e1] at hR1 hF1
 obtain ⟨w2, hI2, hR2, hF2⟩ := open_flat (E0 W) (show flatT Tryd.prog 3 = some (false, [.int .i64]) by kernel_rfl) (hval 2 3 v2 rfl rfl) t2
 obtain ⟨y2, e2⟩ : ∃ y, mk false w2 = enc_i64 y := by obtain ⟨_, _, rfl, ⟨n0, rfl⟩, rfl⟩ := hI2; exact ⟨n0, rfl⟩
 rw [e2] at hR2 hF2
 obtain ⟨w3, hI3, hR3, hF3⟩ := open_flat (E0 W) (show flatT Tryd.prog 3 = some (false, [.int .i64]) by kernel_rfl) (hval 3 3 v3 rfl rfl) t3
 obtain ⟨y3, e3⟩ : ∃ y, mk false w3 = enc_i64 y := by obtain ⟨_, _, rfl, ⟨n0, rfl⟩, rfl⟩ := hI3; exact ⟨n0, rfl⟩
 rw [e3] at hR3 hF3
 refine (seenChanges_call W hL _ _ _ _ y0 y1 y2 y3 hR0 hR1 hR2 hR3 hF0 hF1 hF2 hF3).mono fun e W' ⟨he, hB⟩ => ?_
 subst he
 exact ⟨_, rfl, _, _, _, [], p0 ++ (p1 ++ (p2 ++ (p3))), [], hW', trodAll_mk1 (shut_bool Tryd.underlying4 true), trodAll_mk4 (hargs0 W' hB) (hargs1 W' hB) (hargs2 W' hB) (hargs3 W' hB), rfl, hB.frame _, fun h => by cases h⟩
theorem seenChanges_holds : Rows.SeenChangesSaid :=
 OpenClaim.holds_of_wide 8 Tryd.f8 rfl rfl rfl rfl rfl rfl rfl ⟨rfl, rfl, rfl, rfl, rfl⟩ rfl rfl rfl rfl rfl (by kernel_rfl) Tryd.func8 (by kernel_rfl)
  (of_decide_eq_true (by kernel_rfl)) (by unfold Func.isWrapper; first | (rw [if_pos (by decide +kernel)]; kernel_rfl) | (rw [if_neg (by decide +kernel)]; exact ⟨rfl, rfl⟩))
  (fun os started H enc _ => seenChanges_lifted os started H enc)
theorem seenChanges_card_holds : Rows.SeenChangesCardSaid :=
 Claim7.holds_tied_plain_at .later [] [.data, .data, .data] true (true, "7426c96d17a2a5d9ed15d7d41618cc1fb566f1cf9fc2cc14d49d7fc9e7d92d33") true seenChanges_holds (fun _ h => by cases h) (by kernel_rfl) (fun _ h => by cases h) seenChanges_row_tie rfl ⟨rfl, rfl⟩ (by kernel_rfl) rfl
  (fun f fn hf hfn => by
   obtain rfl : f = 8 := Option.some.inj ((show Tryd.prog.funcNamed "packhorse/packhorselaw16.SeenChanges" = some 8 by kernel_rfl).symm.trans hf) |>.symm
   obtain rfl : fn = Tryd.f8 := (Option.some.inj (Tryd.func8.symm.trans hfn)).symm
   exact ⟨by kernel_rfl, fun j t ht => by
    rw [Tryd.params8] at ht
    have hm : t ∈ [55, 51, 3, 3] := by simpa using Array.mem_of_getElem? ht
    have hall : ([55, 51, 3, 3].all fun u => !Tryd.prog.wantsStandIn u) = true := by kernel_rfl
    exact (show Tryd.prog.wantsStandIn t = false by simpa using List.all_eq_true.1 hall t hm)⟩)
  (by kernel_rfl)
#print axioms seenChanges_card_holds
end Go.Proofs.YtjcbpfhlgebgdaaDoor
