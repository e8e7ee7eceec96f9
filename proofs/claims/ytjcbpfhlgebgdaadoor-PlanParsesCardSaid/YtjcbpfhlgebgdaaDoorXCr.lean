import Derived.Test.YtjcbpfhlgebgdaaDoorCN7
import Derived.Test.YtjcbpfhlgebgdaaDoorXCn
set_option linter.unusedSimpArgs false
set_option linter.unusedVariables false
namespace Go.Proofs.YtjcbpfhlgebgdaaDoor
open Go Go.Eng Go.RowKit Go.X Go.Seq Go.Shelf
noncomputable def packhorseref22_contact (r : Row) : Option (Contact × Fault) := match r.Words with
  | [] => none
  | f :: ws =>
    if (f :: ws).length = 7 ∧ f.Text = contactT then
      if (f :: ws).any (fun x => !decide (x.Key = [])) = true then some (zc, ⟨3, f.At⟩) else
      (numsR ws 1 [0, 0, 0, 0, 0, 0, 0]).bind fun z => match z with
        | .inl a => some (zc, ⟨3, a⟩)
        | .inr [a0, a1, a2, a3, a4, a5, a6] => (packhorseref22_One ⟨a1, a2, a3, a4, a5, a6⟩).bind fun e => if e ≠ 0 then some (zc, ⟨2, f.At⟩) else some (⟨a1, a2, a3, a4, a5, a6⟩, ⟨0, 0⟩)
        | .inr _ => none
    else some (zc, ⟨3, f.At⟩)
theorem packhorseref22_contact.fn : FnT Tryd.prog 62 [.d .Row] [.Contact, .Fault] packhorseref22_contact := by
  intro (x : Row) r h
  obtain ⟨at0, ws⟩ := x
  refine fn_below fun w pr lam cargs hl hargs => ?_
  have ha : RL ⟨w, pr, lam⟩ [.agg [.int .i64 at0, .list (ws.map enc_Word)]] cargs.toList := hargs
  rw [RL] at ha
  obtain ⟨y, ys, e, hy, hys⟩ := ha
  rw [RL] at hys
  subst hys
  rw [R] at hy
  obtain ⟨xs, rfl, hxs, _⟩ := hy
  rw [RL] at hxs
  obtain ⟨y1, ys1, rfl, h1, h2⟩ := hxs
  rw [RL] at h2
  obtain ⟨y2, ys2, rfl, h2, h3⟩ := h2
  rw [RL] at h3
  subst h3
  rw [R] at h1
  subst h1
  have hc' : cargs = #[.agg #[.int .i64 at0, y2]] := by rw [← Array.toList_inj]; simpa using e
  subst hc'
  have fin : ∀ (c : Contact) (fa fb : Int), r = (c, ⟨fa, fb⟩) → (Calls Tryd.prog 62 #[.agg #[.int .i64 at0, y2]] w fun e W' => e = .returned (.tuple #[cVal c, fVal fa fb]) ∧ Below w.heap.size w W') →
      Calls Tryd.prog 62 #[.agg #[.int .i64 at0, y2]] w fun en w' => ∃ v, en = .returned v ∧ (∀ E, R E (resVt [.Contact, .Fault] r) v) ∧ Below w.heap.size w w' := by
    rintro c fa fb rfl hcalls
    refine hcalls.mono ?_
    rintro en w' ⟨rfl, hb⟩
    refine ⟨_, rfl, fun E => ?_, hb⟩
    show R E (.tup [.agg [.int .i64 c.From, .int .i64 c.To, .int .i64 c.Start, .int .i64 c.End, .int .i64 c.Rate, .int .i64 c.Delay], .agg [.int .i64 fa, .int .i64 fb]]) (.tuple #[cVal c, fVal fa fb])
    unfold cVal fVal
    simp only [R, RL]
    refine ⟨_, rfl, _, _, rfl, ⟨_, rfl, ⟨_, _, rfl, rfl, _, _, rfl, rfl, _, _, rfl, rfl, _, _, rfl, rfl, _, _, rfl, rfl, _, _, rfl, rfl, rfl⟩, ?_⟩, _, _, rfl, ⟨_, rfl, ⟨_, _, rfl, rfl, _, _, rfl, rfl, rfl⟩, ?_⟩, rfl⟩
    · intro y hy; simp at hy; rcases hy with rfl | rfl | rfl | rfl | rfl | rfl <;> rfl
    · intro y hy; simp at hy; rcases hy with rfl | rfl <;> rfl
  cases ws with
  | nil => cases h
  | cons f ws =>
    obtain ⟨b, o, cap, rfl, hw⟩ := words_at hl h2 (by simp)
    unfold packhorseref22_contact at h
    dsimp only at h
    split at h
    · rename_i hg
      obtain ⟨g1, g3⟩ := hg
      rw [g1]
      obtain ⟨w0, w1, w2, w3, w4, w5, rfl⟩ := six (ws := ws) (by simpa using g1)
      have key : ∀ (c : Contact) (fa fb : Int), ((∃ x ∈ [f, w0, w1, w2, w3, w4, w5], x.Key ≠ []) → c = zc ∧ fa = 3 ∧ fb = f.At) → ((∀ x ∈ [f, w0, w1, w2, w3, w4, w5], x.Key = []) → keyRes f [w0, w1, w2, w3, w4, w5] c fa fb) → _ := fun c fa fb h1 h2 =>
        refcon_ok w b o cap at0 f w0 w1 w2 w3 w4 w5 hw.lt hw g3 (fun W l n is hb hle hn => refnum_call (hl_bel hl hb) hle hn) (fun W c e hb ho => refone_call (hl_bel hl hb) ho) c fa fb h1 h2
      split at h
      · rename_i hk
        cases h
        obtain ⟨x, hx, hxk⟩ := List.any_eq_true.1 hk
        exact fin zc 3 f.At rfl (key zc 3 f.At (fun _ => ⟨rfl, rfl, rfl⟩) (fun hall => absurd (hall x hx) (by simpa using hxk)))
      · rename_i hk
        have hnk : ¬ ∃ x ∈ [f, w0, w1, w2, w3, w4, w5], x.Key ≠ [] := fun ⟨x, hx, hxk⟩ => hk (List.any_eq_true.2 ⟨x, hx, by simpa using hxk⟩)
        obtain ⟨z, hz, h5⟩ := bind_some h
        clear h
        split at h5
        · rename_i a
          cases h5
          exact fin zc 3 a rfl (key zc 3 a (fun h => absurd h hnk) (fun _ => ⟨_, hz, .inl ⟨a, rfl, rfl, rfl, rfl⟩⟩))
        · rename_i a0 a1 a2 a3 a4 a5 a6
          obtain ⟨e, he, h6⟩ := bind_some h5
          clear h5
          split at h6
          · rename_i hne
            cases h6
            exact fin zc 2 f.At rfl (key zc 2 f.At (fun h => absurd h hnk) (fun _ => ⟨_, hz, .inr ⟨a0, a1, a2, a3, a4, a5, a6, e, rfl, he, .inl ⟨hne, rfl, rfl, rfl⟩⟩⟩))
          · rename_i hne
            cases h6
            exact fin _ 0 0 rfl (key _ 0 0 (fun h => absurd h hnk) (fun _ => ⟨_, hz, .inr ⟨a0, a1, a2, a3, a4, a5, a6, e, rfl, he, .inr ⟨Decidable.not_not.1 hne, rfl, rfl, rfl⟩⟩⟩))
        · cases h5
    · rename_i hg
      cases h
      refine fin zc 3 f.At rfl (refcon_bad w b o _ cap at0 f ws rfl hw.lt hw ?_)
      by_cases g1 : (f :: ws).length = 7
      · exact .inr ⟨g1, fun g3 => hg ⟨g1, g3⟩⟩
      · exact .inl g1
noncomputable def packhorseref22_contact.spec : XSpec Tryd.prog := XSpec.t 62 [.d .Row] [.Contact, .Fault] packhorseref22_contact (by kernel_rfl) packhorseref22_contact.fn
end Go.Proofs.YtjcbpfhlgebgdaaDoor
