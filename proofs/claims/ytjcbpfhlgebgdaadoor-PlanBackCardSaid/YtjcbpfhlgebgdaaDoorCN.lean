import Derived.OwnWalk
import Derived.Test.YtjcbpfhlgebgdaaDoorXGPn
import Derived.Test.YtjcbpfhlgebgdaaDoorXQd
import Derived.Test.YtjcbpfhlgebgdaaDoorSQ
set_option linter.unusedSimpArgs false
set_option linter.unusedVariables false
namespace Go.Proofs.YtjcbpfhlgebgdaaDoor
open Go Go.Eng Go.RowKit Go.X Go.Seq Go.Shelf
theorem hl_belC {w W : World} {pr : Nat → Nat → Prop} (h : HL w pr) (hb : Below w.heap.size w W) : HL W pr :=
  ⟨fun b o hp => Nat.lt_of_lt_of_le (h.lt b o hp) hb.size, fun g vs hg => by
    obtain ⟨⟨ty, h1⟩, h2⟩ := h.glob g vs hg
    exact ⟨⟨ty, (hb.block g (Array.getElem?_eq_some_iff.1 h1).1).trans h1⟩, h2⟩⟩
theorem le_below {w W : World} {pr : Nat → Nat → Prop} {lam : Nat → Option Nat} (hl : HL w pr) (hb : Below w.heap.size w W) : Env.Le ⟨w, pr, lam⟩ ⟨W, pr, lam⟩ :=
  ⟨fun _ _ h => h, fun _ _ h => h, fun b o h => by
    show W.cell? _ = w.cell? _
    simp only [World.cell?, hb.block b (hl.lt b o h)]⟩
structure WordsAt (w : World) (b o : Nat) (ws : List Word) : Prop where
  lt : b < w.heap.size
  c0 : ∀ (i : Nat) (x : Word), ws[i]? = some x → w.cell? ⟨b, o + i * 3, none⟩ = some (.int .i64 x.At)
  c1 : ∀ (i : Nat) (x : Word), ws[i]? = some x → w.cell? ⟨b, o + i * 3 + 1, none⟩ = some (.string ⟨x.Key.toArray⟩)
  c2 : ∀ (i : Nat) (x : Word), ws[i]? = some x → w.cell? ⟨b, o + i * 3 + 2, none⟩ = some (.string ⟨x.Text.toArray⟩)
  l1 : ∀ x ∈ ws, x.Key.length ≤ maxLen ∧ x.Text.length ≤ maxLen
theorem rr_words {E : Env} {b k : Nat} : ∀ {ws : List Word} {o : Nat}, RR E b k o (ws.map enc_Word) → ∀ (i : Nat) (x : Word), ws[i]? = some x → k = 3 ∧ E.at b (o + i * k) (.int .i64 x.At) ∧ E.at b (o + i * k + 1) (.string ⟨x.Key.toArray⟩) ∧ E.at b (o + i * k + 2) (.string ⟨x.Text.toArray⟩) ∧ x.Key.length ≤ maxLen ∧ x.Text.length ≤ maxLen
  | [], o, _, i, x, hx => by simp at hx
  | y :: ws, o, h, i, x, hx => by
    simp only [List.map_cons, RR] at h
    obtain ⟨⟨v, hv, hk, hc⟩, h2⟩ := h
    cases i with
    | zero =>
      simp only [List.getElem?_cons_zero, Option.some.injEq] at hx
      subst hx
      have hv' : R E (.agg [.int .i64 y.At, .str y.Key, .str y.Text]) v := hv
      simp only [R, RL] at hv'
      obtain ⟨xs, rfl, ⟨y1, ys1, rfl, rfl, y2, ys2, rfl, ⟨rfl, l1⟩, y3, ys3, rfl, ⟨rfl, l2⟩, rfl⟩, _⟩ := hv'
      have h0 := hc 0 (.int .i64 y.At) (by simp [Value.cells])
      have h1 := hc 1 (.string ⟨y.Key.toArray⟩) (by simp [Value.cells])
      have h3 := hc 2 (.string ⟨y.Text.toArray⟩) (by simp [Value.cells])
      refine ⟨by rw [← hk]; simp [Value.cells], ?_, ?_, ?_, l1, l2⟩
      · simpa using h0.1
      · simpa using h1.1
      · simpa using h3.1
    | succ i =>
      have := rr_words h2 i x (by simpa using hx)
      obtain ⟨rfl, a1, a2, a3, a4⟩ := this
      rw [show o + (i + 1) * 3 = o + 3 + i * 3 by omega]
      exact ⟨rfl, a1, a2, a3, a4⟩
theorem words_at {w : World} {pr : Nat → Nat → Prop} {lam : Nat → Option Nat} (hl : HL w pr) {ws : List Word} {v : Value} (h : R ⟨w, pr, lam⟩ (.list (ws.map enc_Word)) v) (hne : ws ≠ []) :
    ∃ b o cap, v = .slice (some ⟨b, o, none⟩) ws.length cap ∧ WordsAt w b o ws := by
  simp only [R] at h
  obtain ⟨base, cap, rfl, _, _, ⟨h0, _⟩ | ⟨b, o, k, rfl, hr⟩⟩ := h
  · exact absurd (List.map_eq_nil_iff.1 h0) hne
  · refine ⟨b, o, cap, by simp, ?_⟩
    have key := rr_words hr
    have hk : k = 3 := by
      cases ws with
      | nil => exact absurd rfl hne
      | cons x ws => exact (key 0 x rfl).1
    subst hk
    refine ⟨?_, fun i x hx => (key i x hx).2.1.1, fun i x hx => (key i x hx).2.2.1.1, fun i x hx => (key i x hx).2.2.2.1.1, fun x hx => ?_⟩
    · cases ws with
      | nil => exact absurd rfl hne
      | cons x ws => exact hl.lt b _ (key 0 x rfl).2.1.2
    · obtain ⟨i, hi, rfl⟩ := List.mem_iff_getElem.1 hx
      exact (key i _ (List.getElem?_eq_getElem hi)).2.2.2.2
theorem WordsAt.more {w W : World} {b o : Nat} {ws : List Word} (h : WordsAt w b o ws) {N : Nat} (hN : b < N) (hb : Below N w W) : WordsAt W b o ws := by
  have e : ∀ j, W.cell? ⟨b, j, none⟩ = w.cell? ⟨b, j, none⟩ := fun j => by simp only [World.cell?, hb.block b hN]
  exact ⟨Nat.lt_of_lt_of_le h.lt hb.size, fun i x hx => (e _).trans (h.c0 i x hx), fun i x hx => (e _).trans (h.c1 i x hx), fun i x hx => (e _).trans (h.c2 i x hx), h.l1⟩
theorem num_call {W : World} {pr : Nat → Nat → Prop} (hl : HL W pr) {l : List UInt8} (hle : l.length ≤ maxLen) {n : Int} {b : Bool} (h : words_Number l = some (n, b)) :
    Calls Tryd.prog 122 #[.string ⟨l.toArray⟩] W fun e W' => e = .returned (.tuple #[.int .u64 n, .bool b]) ∧ Below W.heap.size W W' := by
  have hfn := words_Number.fn _ _ h W pr (fun _ => none) #[.string ⟨l.toArray⟩] hl (by
    simp only [buildA, reflC, dataOf, refl, refl_str, toVL, toV, RL, R]
    exact ⟨_, _, rfl, ⟨rfl, hle⟩, rfl⟩) (fun i B h => by simp at h) (fun i j b h => by cases h) (fun _ _ => rfl)
  refine hfn.mono ?_
  rintro en W' ⟨v, pr', rfl, hr, _, hk⟩
  refine ⟨?_, ⟨hk.os, hk.tape, hk.output, hk.size, fun k h => hk.block k h (fun i e => by cases e)⟩⟩
  change R _ (.tup [.int .u64 n, .bool b]) v at hr
  simp only [R, RL] at hr
  obtain ⟨xs, rfl, y, ys, rfl, rfl, y2, ys2, rfl, rfl, rfl⟩ := hr
  rfl
def cVal (c : Contact) : Value := .agg #[.int .i64 c.From, .int .i64 c.To, .int .i64 c.Start, .int .i64 c.End, .int .i64 c.Rate, .int .i64 c.Delay]
theorem one_call {W : World} {pr : Nat → Nat → Prop} (hl : HL W pr) {c : Contact} {e : Int} (h : plan_One c = some e) :
    Calls Tryd.prog 111 #[cVal c] W fun en W' => en = .returned (.int .i64 e) ∧ Below W.heap.size W W' := by
  have hfn := plan_One.fn _ _ h W pr (fun _ => none) #[cVal c] hl (by
    show RL _ [.agg [.int .i64 c.From, .int .i64 c.To, .int .i64 c.Start, .int .i64 c.End, .int .i64 c.Rate, .int .i64 c.Delay]] [cVal c]
    simp only [RL, R]
    refine ⟨_, _, rfl, ⟨[.int .i64 c.From, .int .i64 c.To, .int .i64 c.Start, .int .i64 c.End, .int .i64 c.Rate, .int .i64 c.Delay], rfl, ?_, ?_⟩, rfl⟩
    · exact ⟨_, _, rfl, rfl, _, _, rfl, rfl, _, _, rfl, rfl, _, _, rfl, rfl, _, _, rfl, rfl, _, _, rfl, rfl, rfl⟩
    · intro y hy; simp at hy; rcases hy with rfl | rfl | rfl | rfl | rfl | rfl <;> rfl) (fun i B h => by simp at h) (fun i j b h => by cases h) (fun _ _ => rfl)
  refine hfn.mono ?_
  rintro en W' ⟨v, pr', rfl, hr, _, hk⟩
  refine ⟨?_, ⟨hk.os, hk.tape, hk.output, hk.size, fun k h => hk.block k h (fun i e => by cases e)⟩⟩
  change R _ (.int .i64 e) v at hr
  simp only [R] at hr
  rw [hr]
theorem keyed_call {w W : World} {pr : Nat → Nat → Prop} (hl : HL w pr) (hb : Below w.heap.size w W) {ws : List Word} {v : Value} (hr : R ⟨w, pr, fun _ => none⟩ (.list (ws.map enc_Word)) v) {b : Bool} (h : slices_ContainsFunc_f121 ws = some b) :
    Calls Tryd.prog 120 #[v, .func (.func 121) #[] #[]] W fun en W' => en = .returned (.bool b) ∧ Below W.heap.size W W' := by
  have hfn := slices_ContainsFunc_f121.fn _ _ h W pr (fun _ => none) #[v, .func (.func 121) #[] #[]] (hl_belC hl hb) (by
    show RL _ [.list (ws.map enc_Word), .fn (.func 121) [] []] [v, .func (.func 121) #[] #[]]
    simp only [RL, R]
    have hr' := R.mono (le_below (lam := fun _ => none) hl hb) _ _ hr
    simp only [R] at hr'
    exact ⟨_, _, rfl, hr', _, _, rfl, ⟨[], [], rfl, rfl, rfl⟩, rfl⟩) (fun i B h => by simp at h) (fun i j b h => by cases h) (fun _ _ => rfl)
  refine hfn.mono ?_
  rintro en W' ⟨v, pr', rfl, hr, _, hk⟩
  refine ⟨?_, ⟨hk.os, hk.tape, hk.output, hk.size, fun k h => hk.block k h (fun i e => by cases e)⟩⟩
  change R _ (.bool b) v at hr
  simp only [R] at hr
  rw [hr]
end Go.Proofs.YtjcbpfhlgebgdaaDoor
