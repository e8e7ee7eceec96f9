import Derived.Test.YtjcbpfhlgebgdaaMW5
set_option linter.unusedSimpArgs false
set_option linter.unusedVariables false
namespace Go.Proofs.Ytjcbpfhlgebgdaa
open Go Go.Eng Go.RowKit Go.X Go.Seq Go.Shelf
open Classical in
noncomputable def packhorseref22_joined : List Contact → Option ((List Contact) × Bool) := fun l => if h : (∃ r, JD l r) ∧ l.length ≤ 1000 then some (Classical.choose h.1) else none
theorem joined_mr {l : List Contact} {r : (List Contact) × Bool} (h : packhorseref22_joined l = some r) : JD l r ∧ l.length ≤ 1000 := by
  unfold packhorseref22_joined at h
  split at h
  · rename_i hx
    cases h
    exact ⟨Classical.choose_spec hx.1, hx.2⟩
  · cases h
theorem joined_of {l : List Contact} {r : (List Contact) × Bool} (h : JD l r) (hl : l.length ≤ 1000) : packhorseref22_joined l = some r := by
  unfold packhorseref22_joined
  have hx : (∃ r, JD l r) ∧ l.length ≤ 1000 := ⟨⟨r, h⟩, hl⟩
  rw [dif_pos hx]
  exact congrArg some ((Classical.choose_spec hx.1).det h)
theorem packhorseref22_joined.fn : FnT Try.prog 26 [.d .l_Contact] [.l_Contact, .bool] packhorseref22_joined := by
  intro (l : List Contact) r h
  obtain ⟨hJ, hl4⟩ := joined_mr h
  intro w pr lam cargs hl hargs hin hinj hlam
  have ha : RL ⟨w, pr, lam⟩ [.list (l.map enc_Contact)] cargs.toList := hargs
  simp only [RL] at ha
  obtain ⟨va, ys, e, hva, e'⟩ := ha
  subst e'
  have hc : cargs = #[va] := by rw [← Array.toList_inj]; exact e
  subst hc
  have hlam0 : lam = fun _ => none := funext fun i => hlam i (Nat.zero_le _)
  subst hlam0
  refine (joined_in w va l (SL_of_R hl hva) hl4).mono ?_
  rintro en w' ⟨r', v', hJ', rfl, hb, ho1, ho2⟩
  have hr := hJ'.det hJ
  subst hr
  refine ⟨_, fun b o => pr b o ∨ (w.heap.size ≤ b ∧ b < w'.heap.size), rfl, ?_, fun i B hi => by simp at hi, ⟨hb.os, hb.tape, hb.output, trivial, hb.size, fun k hk _ => hb.block k hk, fun b o h => .inl h, fun b o h => h⟩⟩
  show R _ (.tup [.list (r'.1.map enc_Contact), .bool r'.2]) _
  simp only [R, RL]
  have hR : R ⟨w', fun b o => pr b o ∨ (w.heap.size ≤ b ∧ b < w'.heap.size), fun _ => none⟩ (.list (r'.1.map enc_Contact)) v' := by
    cases h2 : r'.2 with
    | true => exact ow_R (ho2 h2) fun b h1 h2 _ => .inr ⟨h1, h2⟩
    | false =>
      rw [ho1 h2]
      have hl1 : r'.1 = l := by
        rcases hJ' with ⟨rfl, _⟩ | ⟨_, _, _, _, _, _, _, _, _, rfl⟩
        · rfl
        · cases h2
      rw [hl1]
      refine R.mono (E := ⟨w, pr, fun _ => none⟩) (E' := ⟨w', fun b o => pr b o ∨ (w.heap.size ≤ b ∧ b < w'.heap.size), fun _ => none⟩) ⟨fun _ _ h => h, fun _ _ h => .inl h, fun b o hp => ?_⟩ _ _ hva
      show w'.cell? _ = w.cell? _
      rw [World.cell?, World.cell?, hb.block b (hl.lt b o hp)]
  simp only [R] at hR
  exact ⟨[v', .bool r'.2], rfl, _, _, rfl, hR, _, _, rfl, rfl, rfl⟩
noncomputable def packhorseref22_joined.spec : XSpec Try.prog := XSpec.t 26 [.d .l_Contact] [.l_Contact, .bool] packhorseref22_joined (by kernel_rfl) packhorseref22_joined.fn
end Go.Proofs.Ytjcbpfhlgebgdaa
