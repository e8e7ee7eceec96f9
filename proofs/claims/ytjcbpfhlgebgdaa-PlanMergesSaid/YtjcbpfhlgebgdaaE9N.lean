import Derived.Test.YtjcbpfhlgebgdaaE9M
set_option linter.unusedSimpArgs false
set_option linter.unusedVariables false
namespace Go.Eng
open Go.RowKit
mutual
def V.ren (f : Nat → Nat) : V → V
  | .loc i off => .loc (f i) off
  | .mref i => .mref (f i)
  | .agg cs => .agg (V.renL f cs)
  | .tup cs => .tup (V.renL f cs)
  | .elt cs off => .elt (V.renL f cs) off
  | .list rows => .list (V.renL f rows)
  | .fn g first cap => .fn g (V.renL f first) (V.renL f cap)
  | .iface t v => .iface t (v.ren f)
  | .any => .any
  | .un => .un
  | .int k n => .int k n
  | .bool b => .bool b
  | .str s => .str s
  | .nilp => .nilp
  | .nilfn => .nilfn
  | .nilif => .nilif
  | .nilm => .nilm
  | .ptr o => .ptr o
def V.renL (f : Nat → Nat) : List V → List V
  | [] => []
  | c :: cs => c.ren f :: V.renL f cs
end
mutual
theorem V.ren_noLoc (f : Nat → Nat) : ∀ v : V, v.noLoc = true → v.ren f = v
  | .loc _ _, h => by simp [V.noLoc] at h
  | .mref _, h => by simp [V.noLoc] at h
  | .agg cs, h => by simp only [V.noLoc] at h; simp only [V.ren, V.renL_noLoc f cs h]
  | .tup cs, h => by simp only [V.noLoc] at h; simp only [V.ren, V.renL_noLoc f cs h]
  | .elt cs off, h => by simp only [V.noLoc] at h; simp only [V.ren, V.renL_noLoc f cs h]
  | .list rows, h => by simp only [V.noLoc] at h; simp only [V.ren, V.renL_noLoc f rows h]
  | .fn g first cap, h => by
    simp only [V.noLoc, Bool.and_eq_true] at h
    simp only [V.ren, V.renL_noLoc f first h.1, V.renL_noLoc f cap h.2]
  | .iface t v, h => by simp only [V.noLoc] at h; simp only [V.ren, V.ren_noLoc f v h]
  | .any, _ => rfl
  | .un, _ => rfl
  | .int _ _, _ => rfl
  | .bool _, _ => rfl
  | .str _, _ => rfl
  | .nilp, _ => rfl
  | .nilfn, _ => rfl
  | .nilif, _ => rfl
  | .nilm, _ => rfl
  | .ptr _, _ => rfl
theorem V.renL_noLoc (f : Nat → Nat) : ∀ cs : List V, V.noLocL cs = true → V.renL f cs = cs
  | [], _ => rfl
  | c :: cs, h => by
    simp only [V.noLocL, Bool.and_eq_true] at h
    simp only [V.renL, V.ren_noLoc f c h.1, V.renL_noLoc f cs h.2]
end
section
variable {w : World} {pr : Nat → Nat → Prop} {lam lam' : Nat → Option Nat} {f : Nat → Nat}
mutual
theorem R.ren (hf : ∀ i b, lam (f i) = some b → lam' i = some b) : ∀ (v : V) (x : Value), R ⟨w, pr, lam⟩ (v.ren f) x → R ⟨w, pr, lam'⟩ v x
  | .any, _, _ => by simp [R]
  | .un, _, q => by simpa [R, V.ren] using q
  | .int _ _, _, q => by simpa [R, V.ren] using q
  | .bool _, _, q => by simpa [R, V.ren] using q
  | .str _, _, q => by simpa [R, V.ren] using q
  | .agg cs, _, q => by
    simp only [R, V.ren] at q ⊢
    obtain ⟨xs, e, q, q1⟩ := q
    exact ⟨xs, e, RL.ren hf cs xs q, q1⟩
  | .tup cs, _, q => by
    simp only [R, V.ren] at q ⊢
    obtain ⟨xs, e, q⟩ := q
    exact ⟨xs, e, RL.ren hf cs xs q⟩
  | .loc i off, _, q => by
    simp only [R, V.ren] at q ⊢
    obtain ⟨b, e, q⟩ := q
    exact ⟨b, hf _ _ e, q⟩
  | .elt cs off, _, q => by
    simp only [R, V.ren] at q ⊢
    obtain ⟨b, o, e, q⟩ := q
    exact ⟨b, o, e, RC.ren hf b o cs q⟩
  | .nilp, _, q => by simpa [R, V.ren] using q
  | .list rows, _, q => by
    simp only [R, V.ren] at q ⊢
    obtain ⟨base, cap, e, hc, hm, q⟩ := q
    have hl : (V.renL f rows).length = rows.length := V.renL_length rows
    refine ⟨base, cap, by rw [← hl]; exact e, by rw [← hl]; exact hc, hm, ?_⟩
    rcases q with q | ⟨b, o, k, e2, q⟩
    · refine .inl ⟨?_, q.2⟩
      have := hl
      rw [q.1] at this
      exact List.eq_nil_of_length_eq_zero this.symm
    · exact .inr ⟨b, o, k, e2, RR.ren hf b k o rows q⟩
  | .fn g first cap, _, q => by
    simp only [R, V.ren] at q ⊢
    obtain ⟨xs, ys, e, q1, q2⟩ := q
    exact ⟨xs, ys, e, RL.ren hf _ _ q1, RL.ren hf _ _ q2⟩
  | .nilfn, _, q => by simpa [R, V.ren] using q
  | .iface t v, _, q => by
    simp only [R, V.ren] at q ⊢
    obtain ⟨y, e, q⟩ := q
    exact ⟨y, e, R.ren hf v y q⟩
  | .nilif, _, q => by simpa [R, V.ren] using q
  | .mref i, _, q => by
    simp only [R, V.ren] at q ⊢
    obtain ⟨b, e, q⟩ := q
    exact ⟨b, hf _ _ e, q⟩
  | .nilm, _, q => by simpa [R, V.ren] using q
  | .ptr _, _, q => by simpa [R, V.ren] using q
theorem RL.ren (hf : ∀ i b, lam (f i) = some b → lam' i = some b) : ∀ (cs : List V) (xs : List Value), RL ⟨w, pr, lam⟩ (V.renL f cs) xs → RL ⟨w, pr, lam'⟩ cs xs
  | [], _, q => by simpa [RL, V.renL] using q
  | c :: cs, _, q => by
    simp only [RL, V.renL] at q ⊢
    obtain ⟨y, ys, e, q1, q2⟩ := q
    exact ⟨y, ys, e, R.ren hf c y q1, RL.ren hf cs ys q2⟩
theorem RC.ren (hf : ∀ i b, lam (f i) = some b → lam' i = some b) (b : Nat) : ∀ (o : Nat) (cs : List V), RC ⟨w, pr, lam⟩ b o (V.renL f cs) → RC ⟨w, pr, lam'⟩ b o cs
  | _, [], _ => by simp [RC]
  | o, c :: cs, q => by
    simp only [RC, V.renL] at q ⊢
    obtain ⟨⟨y, q0, q3, q1⟩, q2⟩ := q
    exact ⟨⟨y, q0, q3, R.ren hf c y q1⟩, RC.ren hf b (o + 1) cs q2⟩
theorem RR.ren (hf : ∀ i b, lam (f i) = some b → lam' i = some b) (b k : Nat) : ∀ (o : Nat) (cs : List V), RR ⟨w, pr, lam⟩ b k o (V.renL f cs) → RR ⟨w, pr, lam'⟩ b k o cs
  | _, [], _ => by simp [RR]
  | o, c :: cs, q => by
    simp only [RR, V.renL] at q ⊢
    obtain ⟨⟨y, q0, q1, q3⟩, q2⟩ := q
    exact ⟨⟨y, R.ren hf c y q0, q1, q3⟩, RR.ren hf b k (o + k) cs q2⟩
theorem V.renL_length : ∀ (cs : List V), (V.renL f cs).length = cs.length
  | [] => rfl
  | c :: cs => by simp [V.renL, V.renL_length cs]
end
end
def St.setBoxes (st : St) : List Nat → List Box → St
  | i :: π, B :: bs => (st.setBox i B).setBoxes π bs
  | _, _ => st
theorem setBoxes_sl (st : St) : ∀ (π : List Nat) (bs : List Box), (st.setBoxes π bs).sl = st.sl
  | [], _ => by simp [St.setBoxes]
  | _ :: _, [] => by simp [St.setBoxes]
  | i :: π, B :: bs => by simp only [St.setBoxes]; rw [setBoxes_sl (st.setBox i B) π bs]; rfl
theorem setBoxes_not {j : Nat} : ∀ (π : List Nat) (bs : List Box) (st : St), j ∉ π → (st.setBoxes π bs).box j = st.box j
  | [], _, st, _ => by simp [St.setBoxes]
  | _ :: _, [], st, _ => by simp [St.setBoxes]
  | i :: π, B :: bs, st, h => by
    simp only [List.mem_cons, not_or] at h
    simp only [St.setBoxes]
    rw [setBoxes_not π bs _ h.2]
    show upd st.box i _ j = _
    rw [upd_ne _ _ _ _ h.1]
theorem setBoxes_at : ∀ (π : List Nat) (bs : List Box) (st : St) (i j : Nat), π.Nodup → π.length = bs.length → π[i]? = some j → (st.setBoxes π bs).box j = bs[i]?
  | [], _, st, i, j, _, _, h => by simp at h
  | _ :: _, [], st, i, j, _, hl, _ => by simp at hl
  | p :: π, B :: bs, st, i, j, hn, hl, h => by
    simp only [List.nodup_cons] at hn
    simp only [St.setBoxes]
    cases i with
    | zero =>
      simp at h; subst h
      rw [setBoxes_not π bs _ hn.1]
      show upd st.box p _ p = _
      simp
    | succ i =>
      simp at h hl
      rw [setBoxes_at π bs _ i j hn.2 hl h]
      simp
section
variable {P : Program} {n' : Nat} {o : Oper} {st : St} {K : St → Prop}
def boxesOK (st : St) : List Nat → List Box → Prop
  | [], [] => True
  | i :: π, B :: bs => (st.box i = some B ∧ V.noLocL B.cells = true) ∧ boxesOK st π bs
  | _, _ => False
theorem boxesOK_spec {st : St} : ∀ {π : List Nat} {bs : List Box}, boxesOK st π bs → π.length = bs.length ∧ ∀ (i : Nat) (B : Box), bs[i]? = some B → ∃ j, π[i]? = some j ∧ st.box j = some B ∧ V.noLocL B.cells = true
  | [], [], _ => ⟨rfl, fun i B h => by simp at h⟩
  | [], _ :: _, h => h.elim
  | _ :: _, [], h => h.elim
  | p :: π, B :: bs, h => by
    obtain ⟨⟨h1, h2⟩, h3⟩ := h
    obtain ⟨i1, i2⟩ := boxesOK_spec h3
    refine ⟨by simp [i1], fun i C hC => ?_⟩
    cases i with
    | zero => simp at hC; subst hC; exact ⟨p, rfl, h1, h2⟩
    | succ i => simp at hC; obtain ⟨j, q⟩ := i2 i C hC; exact ⟨j, by simpa using q.1, q.2⟩
def callBVC (P : Program) (f : FuncId) (args : List V) (st : St) (dst : Option Nat) (K : St → Prop) : Prop :=
  isGo P f = true ∧ ∃ (π : List Nat) (args' : List V) (ins outs : List Box) (res : V), π.Nodup ∧ st.box st.nb = none ∧ args = V.renL (fun i => π.getD i st.nb) args' ∧ boxesOK st π ins ∧
    outs.length = ins.length ∧ (∀ B ∈ outs, V.noLocL B.cells = true) ∧ res.noLoc = true ∧ Fn P f args' ins res outs ∧ K ((st.setBoxes π outs).put dst res none)
theorem SRel.called {F : Fr} {a : Act} {w w' : World} {pr pr' : Nat → Nat → Prop} {lam lam' : Nat → Option Nat} (h : SRel P F st a w pr lam) {π : List Nat} {ins outs : List Box} (hπ : π.Nodup) (hb : boxesOK st π ins)
    (hlen : outs.length = ins.length) (hno : ∀ B ∈ outs, V.noLocL B.cells = true) (hlam : ∀ i, lam' i = (π[i]?).bind lam) (hout : InRel w' pr' lam' outs) (hleft : Left w pr lam' w' pr') :
    SRel P F (st.setBoxes π outs) a w' pr' lam := by
  obtain ⟨hl1, hl2⟩ := boxesOK_spec hb
  have hblk : ∀ i b, lam' i = some b → ∃ j B, π[i]? = some j ∧ st.box j = some B ∧ lam j = some b := by
    intro i b hi
    rw [hlam] at hi
    cases hp : π[i]? with
    | none => rw [hp] at hi; cases hi
    | some j =>
      rw [hp] at hi
      have hlt : i < ins.length := by
        have := (List.getElem?_eq_some_iff.1 hp).1
        omega
      obtain ⟨j', q1, q2, _⟩ := hl2 i _ (List.getElem?_eq_getElem hlt)
      rw [hp] at q1; cases q1
      exact ⟨j, _, rfl, q2, hi⟩
  have hbox : ∀ j, (st.setBoxes π outs).box j = none ↔ st.box j = none := by
    intro j
    by_cases hj : j ∈ π
    · obtain ⟨i, hi⟩ := List.getElem?_of_mem hj
      rw [setBoxes_at π outs st i j hπ (by omega) hi]
      have hlt : i < π.length := (List.getElem?_eq_some_iff.1 hi).1
      obtain ⟨j', q1, q2, _⟩ := hl2 i _ (List.getElem?_eq_getElem (by omega : i < ins.length))
      rw [hi] at q1; cases q1
      rw [q2]
      simp; omega
    · rw [setBoxes_not π outs st hj]
  have hsome : ∀ j B, (st.setBoxes π outs).box j = some B → ∃ B', st.box j = some B' := by
    intro j B hB
    cases hq : st.box j with
    | none => rw [(hbox j).2 hq] at hB; cases hB
    | some B' => exact ⟨B', rfl⟩
  have hle : Env.Le ⟨w, pr, lam⟩ ⟨w', pr', lam⟩ := by
    refine ⟨fun _ _ h => h, hleft.sub, fun b o hp => ?_⟩
    have hblock := hleft.block b (h.prlt b o hp) (fun i hi => by
      obtain ⟨j, B, _, q2, q3⟩ := hblk i b hi
      obtain ⟨b', r1, _, r3, _⟩ := h.box j B q2
      rw [q3] at r1; cases r1
      exact r3 o hp)
    show w'.cell? _ = w.cell? _
    unfold World.cell?
    rw [hblock]
  have henv : ∀ s, (st.setBoxes π outs).env s = st.env s := fun s => by unfold St.env; rw [setBoxes_sl]
  have htok : ∀ s, (st.setBoxes π outs).tok s = st.tok s := fun s => by unfold St.tok; rw [setBoxes_sl]
  refine ⟨h.size, h.defers, fun s => by rw [henv]; exact (h.env s).mono hle, ?_, ?_, ?_, ?_, ?_, ?_, ?_, ?_, fun b o hp => hleft.sub b o (h.prsub b o hp), ?_, h.lamsub, fun s s' t e e' hs hs' => h.coh2 s s' t e e' (htok s ▸ hs) (htok s' ▸ hs'), fun s t e hs hc => ?_, fun s s' t e e' b o g hs hs' => h.ptr s s' t e e' b o g (htok s ▸ hs) (htok s' ▸ hs')⟩
  rotate_right
  · rw [henv]
    exact (h.old s t e (htok s ▸ hs) hc).old (fun _ _ h => h) (fun b o hp => hle.cell b o (h.prsub b o hp))
  · intro s t e hs g hg
    rw [htok] at hs
    obtain ⟨r1, n, cap, cu, sz, r2, r3, r4, r5, r6⟩ := h.own s t e hs g hg
    have hlt : g < w.heap.size := (Array.getElem?_eq_some_iff.1 r3).1
    refine ⟨r1, n, cap, cu, sz, r2, ?_, r4, r5, fun o ho hp => ?_⟩
    · show w'.heap[g]? = _
      rw [hleft.block g hlt (fun i hi => ?_)]
      · exact r3
      · obtain ⟨j, B, _, q2, q3⟩ := hblk i g hi
        exact h.apart j B g s t e q2 q3 hs hg
    · rcases hleft.new g o hp with hp | ⟨hp, _⟩
      · exact r6 o ho hp
      · omega
  · intro s s' t t' e e' g hs hs'
    rw [htok] at hs hs'
    exact h.coh s s' t t' e e' g hs hs'
  · intro j B hB
    by_cases hj : j ∈ π
    · obtain ⟨i, hi⟩ := List.getElem?_of_mem hj
      rw [setBoxes_at π outs st i j hπ (by omega) hi] at hB
      obtain ⟨b, q1, q2, q3⟩ := hout i B hB
      obtain ⟨j', B', p1, p2, p3⟩ := hblk i b q1
      rw [hi] at p1; cases p1
      obtain ⟨b', r1, _, _, r4⟩ := h.box j B' p2
      rw [p3] at r1; cases r1
      exact ⟨b, p3, q2.noLoc (hno B (List.mem_of_getElem? hB)), q3, r4⟩
    · rw [setBoxes_not π outs st hj] at hB
      obtain ⟨b, r1, r2, r3, r4⟩ := h.box j B hB
      refine ⟨b, r1, r2.mono hle (hleft.block b r2.lt fun i hi => ?_), fun o hp => ?_, r4⟩
      · obtain ⟨j', B', p1, p2, p3⟩ := hblk i b hi
        have := h.inj j j' B B' b hB p2 r1 p3
        subst this
        exact hj (List.mem_of_getElem? p1)
      · have := r2.lt
        rcases hleft.new b o hp with hp | ⟨hp, _⟩
        · exact r3 o hp
        · have h2 : b < w.heap.size := this
          omega
  · intro i j B B' b hB hB' q1 q2
    obtain ⟨C, hC⟩ := hsome i B hB
    obtain ⟨C', hC'⟩ := hsome j B' hB'
    exact h.inj i j C C' b hC hC' q1 q2
  · intro i B b s t e hB q1 hs
    rw [htok] at hs
    obtain ⟨C, hC⟩ := hsome i B hB
    exact h.apart i C b s t e hC q1 hs
  · intro i hi
    exact h.nolam i ((hbox i).1 hi)
  · intro b o hp
    rcases hleft.new b o hp with hp | ⟨_, hp⟩
    · exact Nat.lt_of_lt_of_le (h.prlt b o hp) hleft.size
    · exact hp
  · refine ⟨hleft.os.trans h.keep.os, hleft.tape.trans h.keep.tape, hleft.output.trans h.keep.output, h.keep.drawn.trans hleft.drawn, Nat.le_trans h.keep.size hleft.size, fun k hk hn hh => ?_⟩
    rw [hleft.block k (Nat.lt_of_lt_of_le hk h.keep.size) (fun i hi => ?_)]
    · exact h.keep.block k hk hn hh
    · obtain ⟨j, B, _, q2, q3⟩ := hblk i k hi
      obtain ⟨b, r1, _, _, r4⟩ := h.box j B q2
      rw [q3] at r1; cases r1
      rcases r4 with r4 | r4
      · exact Nat.lt_irrefl _ (Nat.lt_of_lt_of_le hk r4)
      · exact hn r4
  · intro b o hp
    rcases hleft.new b o hp with hp | ⟨hp, _⟩
    · exact h.prnew b o hp
    · exact .inr (.inl (Nat.le_trans h.keep.size hp))
theorem opok_callB {c : Operand} {args : Array Operand} {tys : Array TypeId} {f : FuncId} {first cap : List V} (ho : o.op = .call { callee := .value c, args := args, argTypes := tys })
    (hc : st.eval c = .fn (.func f) first cap) (hd : ∀ d, o.dst = some d → d < n') (hv : callBVC P f (first ++ args.toList.map st.eval ++ cap) st o.dst K) : OpOK P n' o st K := by
  intro F a w pr lam hF h next Q hn
  subst hF
  obtain ⟨hg, π, args', ins, outs, res, hπ, hnb, hargs, hb, hlen, hno, hres, hf, hk⟩ := hv
  have h1 := h.eval c
  rw [hc] at h1
  simp only [R] at h1
  obtain ⟨xs, ys, e1, q1, q2⟩ := h1
  have q3 := RL_map_eval (ρ := st.eval) (E := ⟨w, pr, lam⟩) (ac := a) args.toList fun x _ => h.eval x
  have hall : RL ⟨w, pr, lam⟩ (V.renL (fun i => π.getD i st.nb) args') (xs.toArray ++ args.map a.eval ++ ys.toArray).toList := by
    rw [← hargs]
    have := (q1.append q3).append q2
    simpa using this
  obtain ⟨hl1, hl2⟩ := boxesOK_spec hb
  unfold Oper.wp
  rw [exec_call ho e1 hg, Oper.upon_enter]
  refine (hf w pr (fun i => (π[i]?).bind lam) _ h.hl (RL.ren ?_ _ _ hall) ?_ ?_ ?_).mono ?_
  · intro i b hi
    cases hp : π[i]? with
    | none =>
      have : π.getD i st.nb = st.nb := by simp [List.getD, hp]
      rw [this, h.nolam _ hnb] at hi
      cases hi
    | some j =>
      have : π.getD i st.nb = j := by simp [List.getD, hp]
      rw [this] at hi
      simpa using hi
  · intro i B hB
    obtain ⟨j, p1, p2, p3⟩ := hl2 i B hB
    obtain ⟨b, r1, r2, r3, _⟩ := h.box j B p2
    exact ⟨b, by simp [p1, r1], r2.noLoc p3, r3⟩
  · intro i j b hi hj
    cases hp : π[i]? with
    | none => simp [hp] at hi
    | some p =>
      cases hq : π[j]? with
      | none => simp [hq] at hj
      | some q =>
        simp only [hp, Option.bind_some] at hi
        simp only [hq, Option.bind_some] at hj
        have hi1 : i < ins.length := by have := (List.getElem?_eq_some_iff.1 hp).1; omega
        have hj1 : j < ins.length := by have := (List.getElem?_eq_some_iff.1 hq).1; omega
        obtain ⟨p', a1, a2, _⟩ := hl2 i _ (List.getElem?_eq_getElem hi1)
        obtain ⟨q', b1, b2, _⟩ := hl2 j _ (List.getElem?_eq_getElem hj1)
        rw [hp] at a1; cases a1
        rw [hq] at b1; cases b1
        have := h.inj p q _ _ b a2 b2 hi hj
        subst this
        exact (List.getElem?_inj (by omega) hπ).1 (hp.trans hq.symm)
  · intro i hi
    have : π[i]? = none := by simp; omega
    simp [this]
  · rintro e w' ⟨v, pr', rfl, hr, hout, hleft⟩
    have hs := h.called hπ hb hlen hno (fun i => rfl) hout hleft
    exact hn _ _ w' pr' lam hk (hs.put hd (hr.noLoc _ _ hres) trivial)
end
end Go.Eng
