import Derived.Test.YtjcpgiicdppkcaaDoorRows
import Derived.Test.YtjcpgiicdppkcaaDoorCards
import Derived.Test.YtjcpgiicdppkcaaDoorTie
import Derived.Test.YtjcpgiicdppkcaaDoorPT3
import Derived.Test.YtjcpgiicdppkcaaDoorXO
import Derived.ProofKit
import Derived.OpenShut
import Derived.LaidMore
import Derived.Lay
import Derived.SevenTiedAt
import Derived.Stop.Joined
import Derived.SizedLaws
import Derived.ChangeBears2
set_option linter.unusedSimpArgs false
set_option linter.unusedVariables false
namespace Go.Proofs.YtjcpgiicdppkcaaDoor
open Go.ChangeShapes Go.WideShapes Go.ChangeAt Go.RowKit Go.Eng Go.X
theorem traceSame_call (W : World) (hL : laidMetH Tryd.prog Rows.traceSameRow.laid W) (x0 x1 : Value) (y0 : List (Outc)) (y1 : List (Outc)) (h0 : Eng.R (E0 W) (enc_l_Outc y0) x0) (h1 : Eng.R (E0 W) (enc_l_Outc y1) x1) (f0 : fit (enc_l_Outc y0)) (f1 : fit (enc_l_Outc y1)) :
    Calls Tryd.prog 3 #[x0, x1] W fun e w' => e = .returned (.bool true) ∧ Below W.heap.size W w' := by
  have hF : Go.Eng.Fn Tryd.prog 3 [enc_l_Outc y0, enc_l_Outc y1] [] (.bool true) [] := packhorselaw39_TraceSame.fn (y0, y1) true (traceSame_w y0 y1 f0 f1)
  refine (hF W _ (fun _ => none) #[x0, x1] (hl_of_laid W hL rfl) (by simp only [RL]; exact ⟨x0, _, rfl, h0, ⟨x1, _, rfl, h1, rfl⟩⟩) (fun i B h => by simp at h) (fun i j b h => by cases h) (fun _ _ => rfl)).mono fun e w' ⟨v, pr', he, hr, _, hleft⟩ => ?_
  simp only [Eng.R] at hr
  exact ⟨by rw [he, hr], { os := hleft.os, tape := hleft.tape, output := hleft.output, size := hleft.size, block := fun k hk => hleft.block k hk (by simp) }⟩
theorem own : ownKnob Tryd.prog.godebug = none := by kernel_rfl
theorem Tryd.laidOutL : laidOutB Tryd.prog = true := by kernel_rfl
set_option maxHeartbeats 1600000 in
set_option maxRecDepth 100000 in
theorem traceSame_lifted (os : Os) (started : os.Started) (H : Type) (enc : TypeId × Value → H) :
    ReturnsInHanded {} Tryd.checked os 3 .any (fun w args => (Rows.traceSameSpec.pre enc Tryd.prog Tryd.f3 Rows.traceSameRow.domain false w args ∧ laidMetH Tryd.prog Rows.traceSameRow.laid w) ∧ sizedMet enc Tryd.prog Tryd.f3 (OpenSpec.ofChange Rows.traceSameSpec) false w args)
      (Rows.traceSameSpec.post enc Tryd.prog Tryd.f3 false true false false) := by
  refine returnsInHanded_of_change_and (C := Tryd.checked) (X := fun w _ => laidMetH Tryd.prog Rows.traceSameRow.laid w) (fun _ _ _ hh h => h.of_heap hh) own started (by kernel_rfl) Tryd.func3
    (ChangeSpec.witness_shaped (enc := enc) (C := Tryd.checked) (os := os) (X := fun w _ => laidMetH Tryd.prog Rows.traceSameRow.laid w) false (World.laidAll Tryd.prog os Rows.traceSameRow.laid) #[.slice none 0 0, .slice none 0 0] 8 (World.laidAll_os _ _ _)
      (World.shaped_of_ZipB (by kernel_rfl) (by kernel_rfl)) (by kernel_rfl) (by kernel_rfl) (by kernel_rfl)
      (by rw [MakeChecks.laidMetH_plain _ _ _ (by kernel_rfl)]; exact laidMet_laidAll _ (by kernel_rfl) (by kernel_rfl))) ?_
  intro W base args ds gs before hval0 hW hc _ hL _
  have hval : ∀ (j : Nat) t v, Tryd.f3.params[j]? = some t → args[j]? = some v → Value.okWide Tryd.prog W .any base t v := hval0
  have hW' := hW
  obtain ⟨p, q, hA0, hV, rfl, _, _⟩ := hW
  have hA : DataW.TrodAll enc Tryd.prog W 0 (fun _ => true) true Tryd.f3.params.toList args.toList ds p := hA0
  rw [Tryd.params3] at hA hval
  obtain ⟨v0, v1, d0, d1, p0, p1, rfl, rfl, rfl, t0, t1⟩ := trodAll_two hA
  obtain ⟨rfl, rfl⟩ := trodVars_none hV
  clear hA0 hval0
  simp only [List.append_nil] at hW'
  have hlt : ∀ x ∈ (p0 ++ p1), x.block < W.heap.size := fun x hx => by simpa using hW'.lt x hx
  have hargs0 : ∀ (W' : World), Below W.heap.size W W' → DataW.Trod enc Tryd.prog W' 0 (fun b => decide (b < W.heap.size)) true 22 v0 d0 p0 :=
    fun W' hn => Below.trod Tryd.laidOutL (by kernel_rfl) (of_decide_eq_true (by kernel_rfl)) t0 hn fun x hx => hlt x (by simp [hx])
  have hargs1 : ∀ (W' : World), Below W.heap.size W W' → DataW.Trod enc Tryd.prog W' 0 (fun b => decide (b < W.heap.size)) true 22 v1 d1 p1 :=
    fun W' hn => Below.trod Tryd.laidOutL (by kernel_rfl) (of_decide_eq_true (by kernel_rfl)) t1 hn fun x hx => hlt x (by simp [hx])
  obtain ⟨r0, hR0, hF0, hI0⟩ := open_list Tryd.underlying22 (show flatT Tryd.prog 41 = some (true, [.int .i64, .int .i64, .int .i64, .int .i64, .int .u64, .int .i64, .int .i64]) by kernel_rfl) (hval 0 22 v0 rfl rfl) t0
  obtain ⟨y0, rfl⟩ := map_of (f := enc_Outc) (fun r ⟨vs, e, hl⟩ => by subst e; obtain ⟨_, _, rfl, ⟨n0, rfl⟩, _, _, rfl, ⟨n1, rfl⟩, _, _, rfl, ⟨n2, rfl⟩, _, _, rfl, ⟨n3, rfl⟩, _, _, rfl, ⟨n4, rfl⟩, _, _, rfl, ⟨n5, rfl⟩, _, _, rfl, ⟨n6, rfl⟩, rfl⟩ := hl; exact ⟨⟨n0, n1, n2, ⟨n3, n4, n5⟩, n6⟩, rfl⟩) r0 hI0
  obtain ⟨r1, hR1, hF1, hI1⟩ := open_list Tryd.underlying22 (show flatT Tryd.prog 41 = some (true, [.int .i64, .int .i64, .int .i64, .int .i64, .int .u64, .int .i64, .int .i64]) by kernel_rfl) (hval 1 22 v1 rfl rfl) t1
  obtain ⟨y1, rfl⟩ := map_of (f := enc_Outc) (fun r ⟨vs, e, hl⟩ => by subst e; obtain ⟨_, _, rfl, ⟨n0, rfl⟩, _, _, rfl, ⟨n1, rfl⟩, _, _, rfl, ⟨n2, rfl⟩, _, _, rfl, ⟨n3, rfl⟩, _, _, rfl, ⟨n4, rfl⟩, _, _, rfl, ⟨n5, rfl⟩, _, _, rfl, ⟨n6, rfl⟩, rfl⟩ := hl; exact ⟨⟨n0, n1, n2, ⟨n3, n4, n5⟩, n6⟩, rfl⟩) r1 hI1
  refine (traceSame_call W hL _ _ y0 y1 hR0 hR1 hF0 hF1).mono fun e W' ⟨he, hB⟩ => ?_
  subst he
  exact ⟨_, rfl, _, _, _, [], p0 ++ p1, [], hW', trodAll_mk1 (shut_bool Tryd.underlying4 true), trodAll_mk2 (hargs0 W' hB) (hargs1 W' hB), rfl, hB.frame _, fun h => by cases h⟩
theorem traceSame_holds : Rows.TraceSameSaid :=
  OpenClaim.holds_of_wide 3 Tryd.f3 rfl rfl rfl rfl rfl rfl rfl ⟨rfl, rfl, rfl, rfl, rfl⟩ rfl rfl rfl rfl rfl (by kernel_rfl) Tryd.func3 (by kernel_rfl)
    (of_decide_eq_true (by kernel_rfl)) (by unfold Func.isWrapper; first | (rw [if_pos (by decide +kernel)]; kernel_rfl) | (rw [if_neg (by decide +kernel)]; exact ⟨rfl, rfl⟩))
    (fun os started H enc _ => traceSame_lifted os started H enc)
theorem traceSame_card_holds : Rows.TraceSameCardSaid :=
  Claim7.holds_tied_plain_at .later [] [.data, .data, .data, .data, .widerDeep, .pinned] true (true, "19d4f0b124b7be0a4169f4ac1a456cb0229b30764817e1be35f8ad13a0c8ab09") true traceSame_holds (fun _ h => by cases h) (by kernel_rfl) (fun _ h => by cases h) traceSame_row_tie rfl ⟨rfl, rfl⟩ (by kernel_rfl) rfl
    (fun f fn hf hfn => by
      obtain rfl : f = 3 := Option.some.inj ((show Tryd.prog.funcNamed "packhorse/packhorselaw39.TraceSame" = some 3 by kernel_rfl).symm.trans hf) |>.symm
      obtain rfl : fn = Tryd.f3 := (Option.some.inj (Tryd.func3.symm.trans hfn)).symm
      exact ⟨by kernel_rfl, fun j t ht => by
        rw [Tryd.params3] at ht
        have hm : t ∈ [22, 22] := by simpa using Array.mem_of_getElem? ht
        have hall : ([22, 22].all fun u => !Tryd.prog.wantsStandIn u) = true := by kernel_rfl
        exact (show Tryd.prog.wantsStandIn t = false by simpa using List.all_eq_true.1 hall t hm)⟩)
    (by kernel_rfl)
#print axioms traceSame_card_holds
end Go.Proofs.YtjcpgiicdppkcaaDoor
