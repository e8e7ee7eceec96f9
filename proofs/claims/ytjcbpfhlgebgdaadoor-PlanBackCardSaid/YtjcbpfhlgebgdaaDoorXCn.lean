import Derived.Test.YtjcbpfhlgebgdaaDoorP3r
import Derived.Test.YtjcbpfhlgebgdaaDoorCN4
set_option linter.unusedSimpArgs false
set_option linter.unusedVariables false
namespace Go.Proofs.YtjcbpfhlgebgdaaDoor
open Go Go.Eng Go.RowKit Go.X Go.Seq Go.Shelf
noncomputable def plan_contact (r : Row) : Option (Contact × Fault) := match r.Words with
  | [] => none
  | f :: ws => (slices_ContainsFunc_f121 (f :: ws)).bind fun kd =>
    if (f :: ws).length = 7 ∧ kd = false ∧ f.Text = contactT then
      (numsF ws 0 [0, 0, 0, 0, 0, 0]).bind fun z => match z with
        | .inl a => some (zc, ⟨3, a⟩)
        | .inr [a0, a1, a2, a3, a4, a5] => (plan_One ⟨a0, a1, a2, a3, a4, a5⟩).bind fun e => some (⟨a0, a1, a2, a3, a4, a5⟩, ⟨e, f.At⟩)
        | .inr _ => none
    else some (zc, ⟨3, f.At⟩)
theorem six {ws : List Word} (h : ws.length = 6) : ∃ w0 w1 w2 w3 w4 w5, ws = [w0, w1, w2, w3, w4, w5] := by
  rcases ws with _ | ⟨w0, _ | ⟨w1, _ | ⟨w2, _ | ⟨w3, _ | ⟨w4, _ | ⟨w5, _ | ⟨w6, ws⟩⟩⟩⟩⟩⟩⟩
  all_goals first | (exact ⟨_, _, _, _, _, _, rfl⟩) | (simp at h; done) | (exfalso; simp only [List.length_cons] at h; omega)
theorem rr_lam {w : World} {pr : Nat → Nat → Prop} {lam lam' : Nat → Option Nat} {b k : Nat} : ∀ {ws : List Word} {o : Nat}, RR ⟨w, pr, lam⟩ b k o (ws.map enc_Word) → RR ⟨w, pr, lam'⟩ b k o (ws.map enc_Word)
  | [], _, _ => by simp [RR]
  | x :: ws, o, h => by
    simp only [List.map_cons, RR] at h ⊢
    obtain ⟨⟨y, h1, h2, h3⟩, h4⟩ := h
    refine ⟨⟨y, ?_, h2, h3⟩, rr_lam h4⟩
    have h1' : R ⟨w, pr, lam⟩ (.agg [.int .i64 x.At, .str x.Key, .str x.Text]) y := h1
    show R ⟨w, pr, lam'⟩ (.agg [.int .i64 x.At, .str x.Key, .str x.Text]) y
    simp only [R, RL] at h1' ⊢
    exact h1'
theorem plan_contact.fn : FnT Tryd.prog 60 [.d .Row] [.Contact, .Fault] plan_contact := by
  intro (x : Row) r h
  obtain ⟨at0, ws⟩ := x
  refine fn_below fun w pr lam cargs hl hargs => ?_
  have ha : RL ⟨w, pr, lam⟩ [.agg [.int .i64 at0, .list (ws.map enc_Word)]] cargs.toList := hargs
  rw [RL] at ha
  obtain ⟨y, ys, e, hy, hys⟩ := ha
  rw [RL] at hys
  subst hys
  rw [R] at hy
  obtain ⟨xs, rfl, hxs, _⟩ := hy
  rw [RL] at hxs
  obtain ⟨y1, ys1, rfl, h1, h2⟩ := hxs
  rw [RL] at h2
  obtain ⟨y2, ys2, rfl, h2, h3⟩ := h2
  rw [RL] at h3
  subst h3
  rw [R] at h1
  subst h1
  have hc' : cargs = #[.agg #[.int .i64 at0, y2]] := by rw [← Array.toList_inj]; simpa using e
  subst hc'
  have fin : ∀ (c : Contact) (fa fb : Int), r = (c, ⟨fa, fb⟩) → (Calls Tryd.prog 60 #[.agg #[.int .i64 at0, y2]] w fun e W' => e = .returned (.tuple #[cVal c, fVal fa fb]) ∧ Below w.heap.size w W') →
      Calls Tryd.prog 60 #[.agg #[.int .i64 at0, y2]] w fun en w' => ∃ v, en = .returned v ∧ (∀ E, R E (resVt [.Contact, .Fault] r) v) ∧ Below w.heap.size w w' := by
    rintro c fa fb rfl hcalls
    refine hcalls.mono ?_
    rintro en w' ⟨rfl, hb⟩
    refine ⟨_, rfl, fun E => ?_, hb⟩
    show R E (.tup [.agg [.int .i64 c.From, .int .i64 c.To, .int .i64 c.Start, .int .i64 c.End, .int .i64 c.Rate, .int .i64 c.Delay], .agg [.int .i64 fa, .int .i64 fb]]) (.tuple #[cVal c, fVal fa fb])
    unfold cVal fVal
    simp only [R, RL]
    refine ⟨_, rfl, _, _, rfl, ⟨_, rfl, ⟨_, _, rfl, rfl, _, _, rfl, rfl, _, _, rfl, rfl, _, _, rfl, rfl, _, _, rfl, rfl, _, _, rfl, rfl, rfl⟩, ?_⟩, _, _, rfl, ⟨_, rfl, ⟨_, _, rfl, rfl, _, _, rfl, rfl, rfl⟩, ?_⟩, rfl⟩
    · intro y hy; simp at hy; rcases hy with rfl | rfl | rfl | rfl | rfl | rfl <;> rfl
    · intro y hy; simp at hy; rcases hy with rfl | rfl <;> rfl
  cases ws with
  | nil => cases h
  | cons f ws =>
    have h2' : R ⟨w, pr, fun _ => none⟩ (.list ((f :: ws).map enc_Word)) y2 := by
      simp only [R] at h2 ⊢
      obtain ⟨base, cap, q1, q2, q3, q4⟩ := h2
      refine ⟨base, cap, q1, q2, q3, ?_⟩
      rcases q4 with q4 | ⟨b, o, k, q5, q6⟩
      · exact .inl q4
      · exact .inr ⟨b, o, k, q5, rr_lam q6⟩
    obtain ⟨b, o, cap, rfl, hw⟩ := words_at hl h2' (by simp)
    unfold plan_contact at h
    dsimp only at h
    obtain ⟨kd, hk, h⟩ := bind_some h
    have hC : ∀ W, Below w.heap.size w W → Calls Tryd.prog 120 #[.slice (some ⟨b, o, none⟩) (f :: ws).length cap, .func (.func 121) #[] #[]] W fun en W' => en = .returned (.bool kd) ∧ Below W.heap.size W W' := fun W hb => keyed_call hl hb h2' hk
    split at h
    · rename_i hg
      obtain ⟨g1, rfl, g3⟩ := hg
      obtain ⟨z, hz, h5⟩ := bind_some h
      clear h
      rw [g1] at hC ⊢
      obtain ⟨w0, w1, w2, w3, w4, w5, rfl⟩ := six (ws := ws) (by simpa using g1)
      have key : ∀ (c : Contact) (fa fb : Int), ((∃ a, z = .inl a ∧ c = zc ∧ fa = 3 ∧ fb = a) ∨ (∃ a0 a1 a2 a3 a4 a5, z = .inr [a0, a1, a2, a3, a4, a5] ∧ c = ⟨a0, a1, a2, a3, a4, a5⟩ ∧ plan_One c = some fa ∧ fb = f.At)) → _ := fun c fa fb hres =>
        contact_ok w b o cap at0 f w0 w1 w2 w3 w4 w5 hw.lt hw g3 hC (fun W l n is hb hle hn => num_call (hl_bel hl hb) hle hn) (fun W c e hb ho => one_call (hl_bel hl hb) ho) c fa fb z hz hres
      split at h5
      · rename_i a
        cases h5
        exact fin zc 3 a rfl (key zc 3 a (.inl ⟨a, rfl, rfl, rfl, rfl⟩))
      · rename_i a0 a1 a2 a3 a4 a5
        obtain ⟨e, he, h6⟩ := bind_some h5
        cases h6
        exact fin _ e f.At rfl (key _ e f.At (.inr ⟨a0, a1, a2, a3, a4, a5, rfl, rfl, he, rfl⟩))
      · cases h5
    · rename_i hg
      cases h
      refine fin zc 3 f.At rfl (contact_bad w b o _ cap at0 f ws rfl hw.lt hw kd hC ?_)
      by_cases g1 : (f :: ws).length = 7
      · cases kd with
        | true => exact .inr (.inl ⟨g1, rfl⟩)
        | false => exact .inr (.inr ⟨g1, rfl, fun g3 => hg ⟨g1, rfl, g3⟩⟩)
      · exact .inl g1
noncomputable def plan_contact.spec : XSpec Tryd.prog := XSpec.t 60 [.d .Row] [.Contact, .Fault] plan_contact (by kernel_rfl) plan_contact.fn
end Go.Proofs.YtjcbpfhlgebgdaaDoor
