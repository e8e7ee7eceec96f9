import Derived.Test.YtjcpgiicdppkcaaDoorCards
import Derived.Test.YtjcpgiicdppkcaaDoorTie
import Derived.Test.YtjcpgiicdppkcaaDoorP39c
import Derived.ProofKit
import Derived.OpenShut
import Derived.LaidMore
import Derived.Lay
import Derived.SevenTiedAt
import Derived.Stop.Joined
import Derived.SizedLaws
import Derived.ChangeBears2
set_option linter.unusedSimpArgs false
set_option linter.unusedVariables false
namespace Go.Proofs.YtjcpgiicdppkcaaDoor
open Go.ChangeShapes Go.WideShapes Go.ChangeAt Go.RowKit Go.Eng
def encI (n : Int) : V := .int .i64 n
theorem law_call (W : World) (hL : laidMetH Tryd.prog Rows.tracePartsRow.laid W) (x : Value) (zs : List Int) (hx : R ⟨W, fun b _ => b < W.heap.size, fun _ => none⟩ (.list (zs.map encI)) x) :
    Calls Tryd.prog 6 #[x] W fun e w' => e = .returned (.bool true) ∧ Below W.heap.size W w' := by
  have hF : Go.Eng.Fn Tryd.prog 6 [.list (zs.map encI)] [] (.bool true) [] := packhorselaw39_TraceParts.fn zs true (traceParts_w zs)
  refine (hF W _ (fun _ => none) #[x] (hl_of_laid W hL rfl) (by simp only [RL]; exact ⟨x, [], rfl, hx, rfl⟩) (fun i B h => by simp at h) (fun i j b h => by cases h) (fun _ _ => rfl)).mono fun e w' ⟨v, pr', he, hr, _, hleft⟩ => ?_
  simp only [R] at hr
  exact ⟨by rw [he, hr], { os := hleft.os, tape := hleft.tape, output := hleft.output, size := hleft.size, block := fun k hk => hleft.block k hk (by simp) }⟩
theorem own : ownKnob Tryd.prog.godebug = none := by kernel_rfl
theorem Tryd.laidOutL : laidOutB Tryd.prog = true := by kernel_rfl
theorem Tryd.cellsEL : Tryd.prog.cellsOf 3 = 1 := by kernel_rfl
theorem RR_ints {W : World} {b : Nat} {lam : Nat → Option Nat} : ∀ (l : List Int) (o : Nat), (∀ i, i < l.length → W.cell? ⟨b, o + i, none⟩ = some (.int .i64 (l.getD i 0))) → b < W.heap.size →
    RR ⟨W, fun b _ => b < W.heap.size, lam⟩ b 1 o (l.map encI)
  | [], _, _, _ => by simp [RR]
  | n :: l, o, h, hb => by
    simp only [List.map_cons, RR]
    refine ⟨⟨.int .i64 n, by simp [encI, R], rfl, fun j z hz => ?_⟩, RR_ints l (o + 1) (fun i hi => ?_) hb⟩
    · have hj : j = 0 := by
        have := (Array.getElem?_eq_some_iff.1 hz).1
        simp [Value.cells] at this
        omega
      subst hj
      simp [Value.cells] at hz
      subst hz
      exact ⟨⟨by simpa using h 0 (by simp), hb⟩, rfl⟩
    · have := h (i + 1) (by simpa using hi)
      rw [show o + 1 + i = o + (i + 1) from by omega, this]
      simp
set_option maxHeartbeats 1600000 in
set_option maxRecDepth 100000 in
theorem traceParts_lifted (os : Os) (started : os.Started) (H : Type) (enc : TypeId × Value → H) :
    ReturnsInHanded {} Tryd.checked os 6 .any (fun w args => (Rows.tracePartsSpec.pre enc Tryd.prog Tryd.f6 Rows.tracePartsRow.domain false w args ∧ laidMetH Tryd.prog Rows.tracePartsRow.laid w) ∧ sizedMet enc Tryd.prog Tryd.f6 (OpenSpec.ofChange Rows.tracePartsSpec) false w args)
      (Rows.tracePartsSpec.post enc Tryd.prog Tryd.f6 false true false false) := by
  refine returnsInHanded_of_change_and (C := Tryd.checked) (X := fun w _ => laidMetH Tryd.prog Rows.tracePartsRow.laid w) (fun _ _ _ hh h => h.of_heap hh) own started (by kernel_rfl) Tryd.func6
    (ChangeSpec.witness_shaped (enc := enc) (C := Tryd.checked) (os := os) (X := fun w _ => laidMetH Tryd.prog Rows.tracePartsRow.laid w) false (World.laidAll Tryd.prog os Rows.tracePartsRow.laid) #[.slice none 0 0] 6 (World.laidAll_os _ _ _)
      (World.shaped_of_ZipB (by kernel_rfl) (by kernel_rfl)) (by kernel_rfl) (by kernel_rfl) (by kernel_rfl)
      (by rw [MakeChecks.laidMetH_plain _ _ _ (by kernel_rfl)]; exact laidMet_laidAll _ (by kernel_rfl) (by kernel_rfl))) ?_
  intro W base args ds gs before hval0 hW hc _ hL _
  have hval : ∀ (j : Nat) t v, Tryd.f6.params[j]? = some t → args[j]? = some v → Value.okWide Tryd.prog W .any base t v := hval0
  have hW' := hW
  obtain ⟨p, q, hA0, hV, rfl, _, _⟩ := hW
  have hA : DataW.TrodAll enc Tryd.prog W 0 (fun _ => true) true Tryd.f6.params.toList args.toList ds p := hA0
  rw [Tryd.params6] at hA hval
  obtain ⟨v0, d0, rfl, rfl, h0⟩ := trodAll_one hA
  obtain ⟨rfl, rfl⟩ := trodVars_none hV
  have h0k := h0
  obtain ⟨fuel, hf⟩ := h0
  clear hA0 hval0
  simp only [List.append_nil] at hW'
  have hlt : ∀ x ∈ p, x.block < W.heap.size := fun x hx => by simpa using hW'.lt x hx
  have hargs : ∀ (W' : World), Below W.heap.size W W' → DataW.Trod enc Tryd.prog W' 0 (fun b => decide (b < W.heap.size)) true 37 v0 d0 p :=
    fun W' hn => Below.trod Tryd.laidOutL (by kernel_rfl) (of_decide_eq_true (by kernel_rfl)) h0k hn hlt
  obtain ⟨a0, len, cap, rfl⟩ := okWide_slice Tryd.underlying37 (hval 0 37 v0 rfl rfl)
  obtain ⟨ns, hx⟩ : ∃ ns : List Int, R ⟨W, fun b _ => b < W.heap.size, fun _ => none⟩ (.list (ns.map encI)) (.slice a0 len cap) := by
    rcases open_ints Tryd.underlying37 Tryd.underlying3 Tryd.cellsEL hf with ⟨hcs, hx⟩ | ⟨a, len', cap', zs, hcs, _, hl, hm, hz, hx, hcell, hwz⟩
    · simp [Value.cells] at hcs
      obtain ⟨rfl, rfl, rfl⟩ := hcs
      exact ⟨[], by simp only [R]; exact ⟨none, 0, rfl, Nat.le_refl _, by simp [maxLen], .inl ⟨rfl, rfl⟩⟩⟩
    · simp [Value.cells] at hcs
      obtain ⟨rfl, rfl, rfl⟩ := hcs
      simp only [if_true] at hz
      have hlen : (zs.take len).length = len := by simp; omega
      refine ⟨zs.take len, ?_⟩
      simp only [R]
      refine ⟨some a, cap, by rw [List.length_map, hlen], by rw [List.length_map, hlen]; exact hl, hm, ?_⟩
      by_cases hc0 : cap = 0
      · left
        have : len = 0 := by omega
        subst this
        exact ⟨rfl, hc0⟩
      · right
        obtain ⟨b, off, spot⟩ := a
        have hspot : spot = none := by simpa [Addr.add] using World.cell?_spot (hcell 0 (by omega))
        subst hspot
        have hb : b < W.heap.size := by
          have := hcell 0 (by omega)
          simp only [World.cell?, Addr.add] at this
          split at this
          · rename_i h1; exact (Array.getElem?_eq_some_iff.1 h1).1
          · cases this
        refine ⟨b, off, 1, rfl, RR_ints _ _ (fun i hi => ?_) hb⟩
        rw [hlen] at hi
        have := hcell i (by omega)
        rw [Addr.add_none] at this
        rw [this]
        simp [List.getD_eq_getElem?_getD, hi]
  refine (law_call W hL _ ns hx).mono fun e W' ⟨he, hB⟩ => ?_
  subst he
  exact ⟨_, rfl, _, _, _, [], p, [], hW', trodAll_mk1 (shut_bool Tryd.underlying4 true), trodAll_mk1 (hargs W' hB), rfl, hB.frame _, fun h => by cases h⟩
theorem traceParts_holds : Rows.TracePartsSaid :=
  OpenClaim.holds_of_wide 6 Tryd.f6 rfl rfl rfl rfl rfl rfl rfl ⟨rfl, rfl, rfl, rfl, rfl⟩ rfl rfl rfl rfl rfl (by kernel_rfl) Tryd.func6 (by kernel_rfl)
    (of_decide_eq_true (by kernel_rfl)) (by unfold Func.isWrapper; first | (rw [if_pos (by decide +kernel)]; kernel_rfl) | (rw [if_neg (by decide +kernel)]; exact ⟨rfl, rfl⟩))
    (fun os started H enc _ => traceParts_lifted os started H enc)
theorem traceParts_card_holds : Rows.TracePartsCardSaid :=
  Claim7.holds_tied_plain_at .later [] [.data, .data, .data, .data, .widerDeep, .pinned] true (true, "19d4f0b124b7be0a4169f4ac1a456cb0229b30764817e1be35f8ad13a0c8ab09") true traceParts_holds (fun _ h => by cases h) (by kernel_rfl) (fun _ h => by cases h) traceParts_row_tie rfl ⟨rfl, rfl⟩ (by kernel_rfl) rfl
    (fun f fn hf hfn => by
      obtain rfl : f = 6 := Option.some.inj ((show Tryd.prog.funcNamed "packhorse/packhorselaw39.TraceParts" = some 6 by kernel_rfl).symm.trans hf) |>.symm
      obtain rfl : fn = Tryd.f6 := (Option.some.inj (Tryd.func6.symm.trans hfn)).symm
      exact ⟨by kernel_rfl, fun j t ht => by
        rw [Tryd.params6] at ht
        have hm : t ∈ [37] := by simpa using Array.mem_of_getElem? ht
        have hall : ([37].all fun u => !Tryd.prog.wantsStandIn u) = true := by kernel_rfl
        exact (show Tryd.prog.wantsStandIn t = false by simpa using List.all_eq_true.1 hall t hm)⟩)
    (by kernel_rfl)
#print axioms traceParts_card_holds
end Go.Proofs.YtjcpgiicdppkcaaDoor
