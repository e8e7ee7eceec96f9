import Derived.Test.YtjcbpfhlgebgdaaEG
set_option linter.unusedSimpArgs false
set_option linter.unusedVariables false
namespace Go.Eng
open Go.RowKit
structure St where
  nb : Nat
  sl : Nat → V × Option (Nat × TypeId)
  box : Nat → Option Box
def St.env (st : St) (s : Nat) : V := (st.sl s).1
def St.tok (st : St) (s : Nat) : Option (Nat × TypeId) := (st.sl s).2
def upd {α : Type} (f : Nat → α) (i : Nat) (x : α) : Nat → α := fun j => if j = i then x else f j
@[simp] theorem upd_same {α : Type} (f : Nat → α) (i : Nat) (x : α) : upd f i x i = x := by simp [upd]
theorem upd_ne {α : Type} (f : Nat → α) (i j : Nat) (x : α) (h : j ≠ i) : upd f i x j = f j := by simp [upd, h]
def tcl (t : Nat) : Nat := t / 1000000
def gblock (c : Nat) : Value → Option Nat
  | .slice (some a) n cap => if (c = 0 ∧ 0 < cap) ∨ (c = 1 ∧ n < cap) then some a.block else none
  | _ => none
def Own (P : Program) (M : Nat → Prop) (E : Env) (c : Nat) (e : TypeId) (x : Value) : Prop :=
  ∀ g, gblock c x = some g → M g ∧ ∃ n cap cur sz, x = .slice (some ⟨g, 0, none⟩) n cap ∧ E.w.heap[g]? = some (.cells cur e (0, 0)) ∧
    (P.info? e).map (·.size) = some sz ∧ cur.size = cap * sz ∧ ∀ o, n * sz ≤ o → ¬ E.pr g o
structure HL (w : World) (pr : Nat → Nat → Prop) : Prop where
  lt : ∀ b o, pr b o → b < w.heap.size
  glob : ∀ g vs, GL g = some vs → (∃ ty, w.heap[g]? = some (.cells vs.toArray ty (0, 0))) ∧ ∀ i, i < vs.length → pr g i
structure Fr where
  nt : Nat
  lam0 : Nat → Option Nat
  w0 : World
  pr0 : Nat → Nat → Prop
  io : Nat → Prop
  lt0 : ∀ b o, pr0 b o → b < w0.heap.size
  hd : Option Nat
  hd0 : ∀ b o, hd = some b → ¬ pr0 b o
  gl : ∀ g vs, GL g = some vs → (∃ ty, w0.heap[g]? = some (.cells vs.toArray ty (0, 0))) ∧ (¬ io g ∧ hd ≠ some g) ∧ ∀ i, i < vs.length → pr0 g i
def Fr.N (F : Fr) : Nat := F.w0.heap.size
def Fr.mine (F : Fr) (g : Nat) : Prop := F.N ≤ g ∨ F.hd = some g
theorem Fr.mine_pr {F : Fr} {g o : Nat} (h : F.mine g) (hp : F.pr0 g o) : False := by
  rcases h with h | h
  · exact Nat.lt_irrefl _ (Nat.lt_of_lt_of_le (F.lt0 _ _ hp) h)
  · exact F.hd0 g o h hp
theorem Fr.mine_keep {F : Fr} {g k : Nat} (h : F.mine g) (hk : k < F.w0.heap.size) (hh : F.hd ≠ some k) : k ≠ g := by
  rintro rfl
  rcases h with h | h
  · exact Nat.lt_irrefl _ (Nat.lt_of_lt_of_le hk h)
  · exact hh h
theorem Fr.mine_gl {F : Fr} {g k : Nat} {vs : List Value} (h : F.mine g) (hg : GL k = some vs) : g ≠ k := by
  rintro rfl
  obtain ⟨⟨ty, h3⟩, h4, _⟩ := F.gl g vs hg
  exact F.mine_keep h (Array.getElem?_eq_some_iff.1 h3).1 h4.2 rfl
structure Kept (F : Fr) (w : World) : Prop where
  os : w.os = F.w0.os
  tape : w.tape = F.w0.tape
  output : w.output = F.w0.output
  drawn : DLE F.w0 w
  size : F.w0.heap.size ≤ w.heap.size
  block : ∀ k, k < F.w0.heap.size → ¬ F.io k → F.hd ≠ some k → w.heap[k]? = F.w0.heap[k]?
structure SRel (P : Program) (F : Fr) (st : St) (a : Act) (w : World) (pr : Nat → Nat → Prop) (lam : Nat → Option Nat) : Prop where
  size : a.tmps.size = F.nt
  defers : a.defers = []
  env : ∀ s, R ⟨w, pr, lam⟩ (st.env s) (a.tmps.getD s undef)
  own : ∀ s t e, st.tok s = some (t, e) → Own P F.mine ⟨w, pr, lam⟩ (tcl t) e (a.tmps.getD s undef)
  coh : ∀ s s' t t' e e' g, st.tok s = some (t, e) → st.tok s' = some (t', e') → gblock (tcl t) (a.tmps.getD s undef) = some g → gblock (tcl t') (a.tmps.getD s' undef) = some g → t = t'
  box : ∀ i B, st.box i = some B → ∃ b, lam i = some b ∧ BoxAt ⟨w, pr, lam⟩ b B ∧ (∀ o, ¬ pr b o) ∧ (F.N ≤ b ∨ F.io b)
  inj : ∀ i j B B' b, st.box i = some B → st.box j = some B' → lam i = some b → lam j = some b → i = j
  apart : ∀ i B b s t e, st.box i = some B → lam i = some b → st.tok s = some (t, e) → gblock (tcl t) (a.tmps.getD s undef) ≠ some b
  nolam : ∀ i, st.box i = none → lam i = none
  prlt : ∀ b o, pr b o → b < w.heap.size
  keep : Kept F w
  prsub : ∀ b o, F.pr0 b o → pr b o
  prnew : ∀ b o, pr b o → F.pr0 b o ∨ F.mine b
  lamsub : ∀ i b, F.lam0 i = some b → lam i = some b
  coh2 : ∀ s s' t e e', st.tok s = some (t, e) → st.tok s' = some (t, e') → tcl t = 0 → a.tmps.getD s undef = a.tmps.getD s' undef
  old : ∀ s t e, st.tok s = some (t, e) → tcl t = 2 → R ⟨w, F.pr0, lam⟩ (st.env s) (a.tmps.getD s undef)
  ptr : ∀ s s' t e e' b o g, st.tok s = some (t + 3000000, e) → st.tok s' = some (t, e') → a.tmps.getD s undef = .pointer (some ⟨b, o, none⟩) → gblock (tcl t) (a.tmps.getD s' undef) = some g → b = g
theorem SRel.hl {P : Program} {F : Fr} {st : St} {a : Act} {w : World} {pr : Nat → Nat → Prop} {lam : Nat → Option Nat} (h : SRel P F st a w pr lam) : HL w pr := by
  refine ⟨h.prlt, fun g vs hg => ?_⟩
  obtain ⟨⟨ty, h1⟩, h2, h3⟩ := F.gl g vs hg
  exact ⟨⟨ty, (h.keep.block g (Array.getElem?_eq_some_iff.1 h1).1 h2.1 h2.2).trans h1⟩, fun i hi => h.prsub g i (h3 i hi)⟩
structure Ext (w : World) (pr : Nat → Nat → Prop) (w' : World) (pr' : Nat → Nat → Prop) : Prop where
  below : Below w.heap.size w w'
  drawn : DLE w w'
  sub : ∀ b o, pr b o → pr' b o
  new : ∀ b o, pr' b o → pr b o ∨ (w.heap.size ≤ b ∧ b < w'.heap.size)
theorem Ext.refl (w : World) (pr : Nat → Nat → Prop) : Ext w pr w pr := ⟨Below.refl _ _, DLE.refl _, fun _ _ h => h, fun _ _ h => .inl h⟩
theorem Ext.trans {w w1 w2 : World} {pr pr1 pr2 : Nat → Nat → Prop} (h : Ext w pr w1 pr1) (k : Ext w1 pr1 w2 pr2) : Ext w pr w2 pr2 :=
  ⟨h.below.trans (k.below.mono h.below.size), h.drawn.trans k.drawn, fun b o x => k.sub b o (h.sub b o x), fun b o x => by
    rcases k.new b o x with x | ⟨x, y⟩
    · rcases h.new b o x with x | ⟨x, y⟩
      · exact .inl x
      · exact .inr ⟨x, Nat.lt_of_lt_of_le y k.below.size⟩
    · exact .inr ⟨Nat.le_trans h.below.size x, y⟩⟩
theorem Ext.drew {w : World} {pr : Nat → Nat → Prop} (n : Nat) : Ext w pr (w.drewN n) pr :=
  ⟨⟨rfl, rfl, rfl, Nat.le_refl _, fun _ _ => rfl⟩, DLE.drewN _ _, fun _ _ h => h, fun _ _ h => .inl h⟩
theorem Ext.alloc (w : World) (pr : Nat → Nat → Prop) (o : Obj) : Ext w pr (w.alloc o) pr :=
  ⟨(Below.refl _ _).alloc (Nat.le_refl _) o, DLE.of_eq rfl, fun _ _ h => h, fun _ _ h => .inl h⟩
theorem Ext.protect (w : World) (pr : Nat → Nat → Prop) (w' : World) (h : Below w.heap.size w w') (hd : DLE w w') (n : Nat → Nat → Prop)
    (hn : ∀ b o, n b o → w.heap.size ≤ b ∧ b < w'.heap.size) : Ext w pr w' (fun b o => pr b o ∨ n b o) :=
  ⟨h, hd, fun _ _ x => .inl x, fun b o x => x.imp id (hn b o)⟩
theorem Ext.le {w w' : World} {pr pr' : Nat → Nat → Prop} {lam : Nat → Option Nat} (h : Ext w pr w' pr') (hlt : ∀ b o, pr b o → b < w.heap.size) :
    Env.Le ⟨w, pr, lam⟩ ⟨w', pr', lam⟩ :=
  ⟨fun _ _ h => h, h.sub, fun b o hp => h.below.cell (p := ⟨b, o, none⟩) (hlt b o hp)⟩
theorem Own.ext {P : Program} {N : Nat → Prop} {w w' : World} {pr pr' : Nat → Nat → Prop} {lam : Nat → Option Nat} {c : Nat} {e : TypeId} {x : Value} (h : Own P N ⟨w, pr, lam⟩ c e x) (k : Ext w pr w' pr') :
    Own P N ⟨w', pr', lam⟩ c e x := by
  intro g hg
  obtain ⟨h1, n, cap, cur, sz, h2, h3, h4, h5, h6⟩ := h g hg
  have hlt : g < w.heap.size := (Array.getElem?_eq_some_iff.1 h3).1
  refine ⟨h1, n, cap, cur, sz, h2, ?_, h4, h5, fun o ho hp => ?_⟩
  · show w'.heap[g]? = _
    rw [k.below.block g hlt]; exact h3
  · rcases k.new g o hp with hp | ⟨hp, _⟩
    · exact h6 o ho hp
    · omega
theorem SRel.ext {P : Program} {F : Fr} {st : St} {a : Act} {w w' : World} {pr pr' : Nat → Nat → Prop} {lam : Nat → Option Nat}
    (h : SRel P F st a w pr lam) (k : Ext w pr w' pr') : SRel P F st a w' pr' lam := by
  have hle : Env.Le ⟨w, pr, lam⟩ ⟨w', pr', lam⟩ := k.le h.prlt
  refine ⟨h.size, h.defers, fun s => (h.env s).mono hle, fun s t e ht => (h.own s t e ht).ext k, h.coh, ?_, h.inj, h.apart, h.nolam, ?_, ?_, fun b o hp => k.sub b o (h.prsub b o hp), ?_, h.lamsub, h.coh2,
    fun s t e ht hc => (h.old s t e ht hc).old (fun _ _ h => h) (fun b o hp => hle.cell b o (h.prsub b o hp)), h.ptr⟩
  · intro i B hB
    obtain ⟨b, h1, h2, h5, h6⟩ := h.box i B hB
    have hlt : b < w.heap.size := h2.lt
    refine ⟨b, h1, h2.mono hle (k.below.block b hlt), fun o hp => ?_, h6⟩
    rcases k.new b o hp with hp | ⟨hp, _⟩
    · exact h5 o hp
    · omega
  · intro b o hp
    rcases k.new b o hp with hp | ⟨_, hp⟩
    · exact Nat.lt_of_lt_of_le (h.prlt b o hp) k.below.size
    · exact hp
  · refine ⟨k.below.os.trans h.keep.os, k.below.tape.trans h.keep.tape, k.below.output.trans h.keep.output, h.keep.drawn.trans k.drawn, Nat.le_trans h.keep.size k.below.size, fun b hb hn hh => ?_⟩
    rw [k.below.block b (Nat.lt_of_lt_of_le hb h.keep.size)]
    exact h.keep.block b hb hn hh
  · intro b o hp
    rcases k.new b o hp with hp | ⟨hp, _⟩
    · exact h.prnew b o hp
    · exact .inr (.inl (Nat.le_trans h.keep.size hp))
structure TokSome (P : Program) (F : Fr) (st : St) (a : Act) (w : World) (pr : Nat → Nat → Prop) (lam : Nat → Option Nat) (v : V) (x : Value) (t : Nat) (e : TypeId) : Prop where
  own : Own P F.mine ⟨w, pr, lam⟩ (tcl t) e x
  coh : ∀ s t' e' g, st.tok s = some (t', e') → gblock (tcl t') (a.tmps.getD s undef) = some g → gblock (tcl t) x = some g → t = t'
  apart : ∀ i B b, st.box i = some B → lam i = some b → gblock (tcl t) x ≠ some b
  coh2 : ∀ s e', st.tok s = some (t, e') → tcl t = 0 → a.tmps.getD s undef = x
  old : tcl t = 2 → R ⟨w, F.pr0, lam⟩ v x
  ptr1 : ∀ s e' b o g, st.tok s = some (t + 3000000, e') → a.tmps.getD s undef = .pointer (some ⟨b, o, none⟩) → gblock (tcl t) x = some g → b = g
  ptr2 : ∀ s u e' b o g, t = u + 3000000 → st.tok s = some (u, e') → x = .pointer (some ⟨b, o, none⟩) → gblock (tcl u) (a.tmps.getD s undef) = some g → b = g
def TokOk (P : Program) (F : Fr) (st : St) (a : Act) (w : World) (pr : Nat → Nat → Prop) (lam : Nat → Option Nat) (v : V) (x : Value) : Option (Nat × TypeId) → Prop
  | none => True
  | some (t, e) => TokSome P F st a w pr lam v x t e
def St.put (st : St) (dst : Option Nat) (v : V) (tk : Option (Nat × TypeId)) : St :=
  match dst with
  | some d => { st with sl := upd st.sl d (v, tk) }
  | none => st
def clr (t : Nat) (x : V × Option (Nat × TypeId)) : V × Option (Nat × TypeId) :=
  (x.1, match x.2 with | some (t', e) => if t' = t ∨ t' = t + 3000000 then none else some (t', e) | none => none)
def St.clear (st : St) (t : Nat) : St := { st with sl := fun s => clr t (st.sl s) }
theorem clear_tok {st : St} {t s t' : Nat} {e : TypeId} (h : (st.clear t).tok s = some (t', e)) : st.tok s = some (t', e) ∧ t' ≠ t ∧ t' ≠ t + 3000000 := by
  change (match st.tok s with | some (t', e) => if t' = t ∨ t' = t + 3000000 then none else some (t', e) | none => none) = some (t', e) at h
  cases hs : st.tok s with
  | none => rw [hs] at h; cases h
  | some te =>
    rw [hs] at h
    obtain ⟨a, b⟩ := te
    simp only at h
    split at h
    · cases h
    · rename_i hne; cases h
      exact ⟨rfl, fun h => hne (.inl h), fun h => hne (.inr h)⟩
theorem SRel.clear {P : Program} {F : Fr} {st : St} {a : Act} {w : World} {pr : Nat → Nat → Prop} {lam : Nat → Option Nat} (h : SRel P F st a w pr lam) (t : Nat) : SRel P F (st.clear t) a w pr lam :=
  ⟨h.size, h.defers, h.env, fun s t' e hs => h.own s t' e (clear_tok hs).1, fun s s' t t' e e' g hs hs' => h.coh s s' t t' e e' g (clear_tok hs).1 (clear_tok hs').1,
    h.box, h.inj, fun i B b s t' e hB hl hs => h.apart i B b s t' e hB hl (clear_tok hs).1, h.nolam, h.prlt, h.keep, h.prsub, h.prnew, h.lamsub,
    fun s s' t e e' hs hs' => h.coh2 s s' t e e' (clear_tok hs).1 (clear_tok hs').1, fun s t e hs => h.old s t e (clear_tok hs).1,
    fun s s' t e e' b o g hs hs' => h.ptr s s' t e e' b o g (clear_tok hs).1 (clear_tok hs').1⟩
def St.fresh (st : St) (tk : Option (Nat × TypeId)) : St := match tk with | some (t, _) => st.clear t | none => st
theorem SRel.fresh {P : Program} {F : Fr} {st : St} {a : Act} {w : World} {pr : Nat → Nat → Prop} {lam : Nat → Option Nat} (h : SRel P F st a w pr lam) (tk : Option (Nat × TypeId)) : SRel P F (st.fresh tk) a w pr lam := by
  cases tk with
  | none => exact h
  | some te => exact h.clear te.1
theorem St.env_put (st : St) (d s : Nat) (v : V) (tk : Option (Nat × TypeId)) : (st.put (some d) v tk).env s = upd st.env d v s := by
  simp only [St.put, St.env, upd]; split <;> rfl
theorem St.tok_put (st : St) (d s : Nat) (v : V) (tk : Option (Nat × TypeId)) : (st.put (some d) v tk).tok s = upd st.tok d tk s := by
  simp only [St.put, St.tok, upd]; split <;> rfl
theorem Act.getD_put (a : Act) (d s : Nat) (x : Value) (hd : d < a.tmps.size) : (a.put (some d) x).tmps.getD s undef = if s = d then x else a.tmps.getD s undef := by
  show (a.tmps.setIfInBounds d x).getD s undef = _
  simp only [Array.getD_eq_getD_getElem?]
  by_cases h : s = d
  · subst h; simp [hd]
  · rw [Array.getElem?_setIfInBounds_ne (Ne.symm h)]; simp [h]
theorem SRel.put {P : Program} {F : Fr} {st : St} {a : Act} {w : World} {pr : Nat → Nat → Prop} {lam : Nat → Option Nat}
    (h : SRel P F st a w pr lam) {dst : Option Nat} {v : V} {x : Value} {tk : Option (Nat × TypeId)} (hd : ∀ d, dst = some d → d < F.nt)
    (hr : R ⟨w, pr, lam⟩ v x) (ht : TokOk P F st a w pr lam v x tk) : SRel P F (st.put dst v tk) (a.put dst x) w pr lam := by
  cases dst with
  | none => exact h
  | some d =>
    have hd' : d < a.tmps.size := by rw [h.size]; exact hd d rfl
    have hg := fun s => Act.getD_put a d s x hd'
    refine ⟨?_, h.defers, ?_, ?_, ?_, h.box, h.inj, ?_, h.nolam, h.prlt, h.keep, h.prsub, h.prnew, h.lamsub, ?_, ?_, ?_⟩
    · show (a.tmps.setIfInBounds d x).size = F.nt
      rw [Array.size_setIfInBounds]; exact h.size
    · intro s
      rw [hg]
      rw [St.env_put]
      unfold upd
      split
      · exact hr
      · exact h.env s
    · intro s t e hs
      rw [hg]
      rw [St.tok_put] at hs
      unfold upd at hs
      split at hs
      · rename_i hsd; subst hsd; subst hs; simp only [if_true]; exact ht.own
      · rename_i hsd; rw [if_neg hsd]; exact h.own s t e hs
    · intro s s' t t' e e' g hs hs' hgs hgs'
      rw [hg] at hgs hgs'
      rw [St.tok_put] at hs
      rw [St.tok_put] at hs'
      unfold upd at hs hs'
      split at hs <;> split at hs'
      · subst hs; simp only [Option.some.injEq, Prod.mk.injEq] at hs'; exact hs'.1
      · rename_i q1 q2; rw [if_pos q1] at hgs; rw [if_neg q2] at hgs'; subst hs; exact ht.coh s' t' e' g hs' hgs' hgs
      · rename_i q1 q2; rw [if_neg q1] at hgs; rw [if_pos q2] at hgs'; subst hs'; exact (ht.coh s t e g hs hgs hgs').symm
      · rename_i q1 q2; rw [if_neg q1] at hgs; rw [if_neg q2] at hgs'; exact h.coh s s' t t' e e' g hs hs' hgs hgs'
    · intro i B b s t e hB hl hs
      rw [hg]
      rw [St.tok_put] at hs
      unfold upd at hs
      split at hs
      · rename_i q; rw [if_pos q]; subst hs; exact ht.apart i B b hB hl
      · rename_i q; rw [if_neg q]; exact h.apart i B b s t e hB hl hs
    · intro s s' t e e' hs hs' hc
      rw [hg, hg]
      rw [St.tok_put] at hs hs'
      unfold upd at hs hs'
      split at hs <;> split at hs'
      · rename_i q1 q2
        rw [if_pos q1, if_pos q2]
      · rename_i q1 q2
        rw [if_pos q1, if_neg q2]
        subst hs
        exact (ht.coh2 s' e' hs' hc).symm
      · rename_i q1 q2
        rw [if_neg q1, if_pos q2]
        subst hs'
        exact ht.coh2 s e hs hc
      · rename_i q1 q2
        rw [if_neg q1, if_neg q2]
        exact h.coh2 s s' t e e' hs hs' hc
    · intro s t e hs hc
      rw [hg]
      rw [St.tok_put] at hs
      rw [St.env_put]
      unfold upd at hs ⊢
      split at hs
      · rename_i q; rw [if_pos q, if_pos q]; subst hs; exact ht.old hc
      · rename_i q; rw [if_neg q, if_neg q]; exact h.old s t e hs hc
    · intro s s' t e e' b o g hs hs' hx hgb
      rw [hg] at hx hgb
      rw [St.tok_put] at hs hs'
      unfold upd at hs hs'
      split at hs <;> split at hs'
      · rename_i q1 q2
        subst hs
        simp only [Option.some.injEq, Prod.mk.injEq] at hs'
        omega
      · rename_i q1 q2
        rw [if_pos q1] at hx
        rw [if_neg q2] at hgb
        subst hs
        exact ht.ptr2 s' t e' b o g rfl hs' hx hgb
      · rename_i q1 q2
        rw [if_neg q1] at hx
        rw [if_pos q2] at hgb
        subst hs'
        exact ht.ptr1 s e b o g hs hx hgb
      · rename_i q1 q2
        rw [if_neg q1] at hx
        rw [if_neg q2] at hgb
        exact h.ptr s s' t e e' b o g hs hs' hx hgb
end Go.Eng
