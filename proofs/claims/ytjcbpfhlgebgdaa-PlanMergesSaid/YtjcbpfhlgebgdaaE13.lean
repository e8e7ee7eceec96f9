import Derived.Test.YtjcbpfhlgebgdaaE12
set_option linter.unusedSimpArgs false
set_option linter.unusedVariables false
namespace Go.Eng
open Go.RowKit
def AWp (P : Program) (n' : Nat) (c : Code) (st : St) (Q : Exit → St → Prop) : Prop :=
  ∀ (F : Fr) (a : Act) (w : World) (pr : Nat → Nat → Prop) (lam : Nat → Option Nat), F.nt = n' → SRel P F st a w pr lam →
    c.wp P (fun ex a' w' => ∃ st' pr' lam', Q ex st' ∧ SRel P F st' a' w' pr' lam') a w
def thenQ (K : St → Prop) (Q : Exit → St → Prop) : Exit → St → Prop
  | .normal, st => K st
  | e, st => Q e st
def blockQ (id : Nat) (Q : Exit → St → Prop) : Exit → St → Prop
  | .exit id', st => if id' = id then Q .normal st else Q (.exit id') st
  | e, st => Q e st
def condVC (v : V) (A B : Prop) : Prop := match v with | .bool b => brVC b A B | _ => False
def noTok (ops : Array Oper) (st : St) : Prop := ∀ s t e, st.tok s = some (t, e) → tcl t < 2 → ∀ o ∈ ops.toList, newOp o = true → o.dst ≠ some (t % 1000000)
def regVC (P : Program) (dr : Bool) (ops : Array Oper) (st : St) (K : St → Prop) : Prop := (dr = true → noTok ops st) ∧ opsVC P dr (ops.toList.map (·.dst)) ops.toList st K
def codeVC (P : Program) (n' : Nat) (hd : List Nat) : Code → St → (Exit → St → Prop) → Prop
  | .skip, st, Q => Q .normal st
  | .label _, st, Q => Q .normal st
  | .region id ops draw, st, Q => if hd.contains id = true then AWp P n' (.region id ops draw) st Q else regVC P draw ops st (Q .normal)
  | .seq a b, st, Q => codeVC P n' hd a st (thenQ (fun st' => codeVC P n' hd b st' Q) Q)
  | .cond c t e, st, Q => condVC (st.eval c) (codeVC P n' hd t st Q) (codeVC P n' hd e st Q)
  | .block id b, st, Q => codeVC P n' hd b st (blockQ id Q)
  | .exit id, st, Q => Q (.exit id) st
  | .ret, st, Q => Q .ret st
  | c, st, Q => AWp P n' c st Q
def codeOK (n' : Nat) (hd : List Nat) : Code → Bool
  | .region id ops draw => hd.contains id || (ops.toList.all (dstOK n') && (!draw || (pinOK ops && Region.lexB .any ops)))
  | .seq a b => codeOK n' hd a && codeOK n' hd b
  | .cond _ a b => codeOK n' hd a && codeOK n' hd b
  | .block _ b => codeOK n' hd b
  | _ => true
theorem AWp.mono {P : Program} {n' : Nat} {c : Code} {st : St} {Q Q' : Exit → St → Prop} (h : AWp P n' c st Q) (hq : ∀ e st, Q e st → Q' e st) : AWp P n' c st Q' :=
  fun F a w pr lam hF hs => wp_mono (h F a w pr lam hF hs) fun e a w ⟨st', pr', lam', q, r⟩ => ⟨st', pr', lam', hq e st' q, r⟩
theorem SRel.drew {P : Program} {F : Fr} {st : St} {a : Act} {w : World} {pr : Nat → Nat → Prop} {lam : Nat → Option Nat} (h : SRel P F st a w pr lam) : SRel P F st a { w with drawn := w.drawn + 1 } pr lam :=
  h.ext (Ext.drew 1)
theorem codeVC_sound {P : Program} {n' : Nat} {hd : List Nat} (hm : P.follows .mixedOrders = true) : ∀ (c : Code) (st : St) (Q : Exit → St → Prop), codeOK n' hd c = true → codeVC P n' hd c st Q → AWp P n' c st Q
  | .skip, st, Q, _, h => fun F a w pr lam _ hs => wp_skip ⟨st, pr, lam, h, hs⟩
  | .label _, st, Q, _, h => fun F a w pr lam _ hs => wp_label ⟨st, pr, lam, h, hs⟩
  | .exit id, st, Q, _, h => fun F a w pr lam _ hs => wp_exit ⟨st, pr, lam, h, hs⟩
  | .ret, st, Q, _, h => fun F a w pr lam _ hs => wp_ret ⟨st, pr, lam, h, hs⟩
  | .seq x y, st, Q, hok, h => by
    simp only [codeOK, Bool.and_eq_true] at hok
    intro F a w pr lam hF hs
    refine wp_seq (wp_mono (codeVC_sound hm x st _ hok.1 h F a w pr lam hF hs) ?_)
    rintro e a' w' ⟨st', pr', lam', q, r⟩
    cases e with
    | normal => exact codeVC_sound hm y st' Q hok.2 q F a' w' pr' lam' hF r
    | exit id => exact ⟨st', pr', lam', q, r⟩
    | goto l => exact ⟨st', pr', lam', q, r⟩
    | ret => exact ⟨st', pr', lam', q, r⟩
    | panic c => exact ⟨st', pr', lam', q, r⟩
    | outgrown => exact ⟨st', pr', lam', q, r⟩
  | .cond c x y, st, Q, hok, h => by
    simp only [codeOK, Bool.and_eq_true] at hok
    intro F a w pr lam hF hs
    simp only [codeVC, condVC] at h
    split at h
    · rename_i b hb
      have hr := hs.eval c
      rw [hb] at hr
      simp only [R] at hr
      exact wp_cond_split hr (fun ht => codeVC_sound hm x st Q hok.1 (h.1 ht) F a w pr lam hF hs) (fun hf => codeVC_sound hm y st Q hok.2 (h.2 hf) F a w pr lam hF hs)
    · exact h.elim
  | .block id b, st, Q, hok, h => by
    intro F a w pr lam hF hs
    refine wp_block (wp_mono (codeVC_sound hm b st _ hok h F a w pr lam hF hs) ?_)
    rintro e a' w' ⟨st', pr', lam', q, r⟩
    cases e with
    | exit id' =>
      simp only [blockQ] at q
      simp only [Exit.inBlock]
      split at q
      · rename_i hid; rw [if_pos hid]; exact ⟨st', pr', lam', q, r⟩
      · rename_i hid; rw [if_neg hid]; exact ⟨st', pr', lam', q, r⟩
    | normal => exact ⟨st', pr', lam', q, r⟩
    | goto l => exact ⟨st', pr', lam', q, r⟩
    | ret => exact ⟨st', pr', lam', q, r⟩
    | panic c => exact ⟨st', pr', lam', q, r⟩
    | outgrown => exact ⟨st', pr', lam', q, r⟩
  | .region id ops draw, st, Q, hok, h => by
    simp only [codeVC] at h
    split at h
    · exact h
    · rename_i hnc
      simp only [codeOK, Bool.or_eq_true, Bool.and_eq_true] at hok
      have hok' := hok.resolve_left hnc
      have hall := hok'.1
      have hdr := hok'.2
      intro F a w pr lam hF hs
      cases draw with
      | false =>
        refine wp_region ?_
        have := opsVC_sound (P := P) (n' := n') rfl (ops := ops) ops.toList 0 st (by simp) hall h.2 F a w pr lam hF hs (fun ex a' w' => ∃ st' pr' lam', Q ex st' ∧ SRel P F st' a' w' pr' lam') (fun st' a' w' pr' lam' k r => ⟨st', pr', lam', k, r⟩)
        rwa [Array.length_toList, ← List.range_eq_range'] at this
      | true =>
        simp only [Bool.not_true, Bool.false_eq_true, false_or] at hdr
        obtain ⟨hq, hlex⟩ := hdr
        simp only [Region.lexB, Bool.and_eq_true] at hlex
        refine wp_region_any hm ?_
        have hcl : Cl ops (Array.replicate ops.size false) := by
          intro j oj _ hj
          by_cases hlt : j < ops.size <;> simp [hlt] at hj
        have hI : Inv ops (Array.replicate ops.size false) st := by
          intro j oj d hoj _ hno hd s t e ht h2 hq
          subst hq
          exact h.1 rfl s t e ht h2 oj (by simpa using Array.mem_of_getElem? hoj) hno hd
        have hst := sAny_lex (P := P) (n' := n') (ops := ops) (K := Q .normal) hq ops.toList 0 (Array.replicate ops.size false) st (by simp [lst]) (by simp) hcl hI hall (by simpa using hlex.2) h.2
        rw [Array.length_toList] at hst
        refine wpAny_of_sAny (n' := n') (fun i o ho => ?_) hF (fun st' a' w' pr' lam' k r => ⟨st', pr', lam', k, r⟩) _ _ st a _ pr lam hs.drew hst
        exact List.all_eq_true.1 hall o (by simpa using Array.mem_of_getElem? ho)
  | .loop _, _, _, _, h => h
  | .rangeFunc _ _ _ _, _, _, _, h => h
  | .scope _, _, _, _, h => h
  | .goto _, _, _, _, h => h
  | .refuse _, _, _, _, h => h
theorem wp_loop_ix {P : Program} {c : Code} {Q : Exit → Act → World → Prop} (I : Nat → Act → World → Prop)
    (round : ∀ k a w, I k a w → c.wp P (Exit.then (fun a' w' => ∃ k', k' < k ∧ I k' a' w') Q) a w) : ∀ (k : Nat) (a : Act) (w : World), I k a w → (Code.loop c).wp P Q a w := by
  intro k a w h₀ b ks cs
  have key : ∀ n a w, I n a w →
      ∃ e a' w', Q e a' w' ∧ Arrives P (lone (b.at a (.code c :: .inLoop c :: ks)) cs w) b ks cs e a' w' := by
    intro n
    induction n using Nat.strongRecOn with
    | _ n ih =>
      intro a w hI
      obtain ⟨e, a₁, w₁, hq, harr⟩ := round n a w hI b (.inLoop c :: ks) cs
      cases e with
      | normal =>
        obtain ⟨k', hlt, hI₁⟩ := hq
        obtain ⟨e₂, a₂, w₂, hq₂, harr₂⟩ := ih k' hlt a₁ w₁ hI₁
        exact ⟨e₂, a₂, w₂, hq₂, .of_steps (Steps.trans harr (.one step_inLoop)) harr₂⟩
      | exit id => exact ⟨_, a₁, w₁, hq, .pass (x := .inLoop c) rfl (fun _ _ => .inl (by simp)) harr⟩
      | goto l => exact ⟨_, a₁, w₁, hq, .pass (x := .inLoop c) rfl (fun _ _ => .inl (by simp)) harr⟩
      | ret => exact ⟨_, a₁, w₁, hq, .pass (x := .inLoop c) rfl (fun _ _ => .inl (by simp)) harr⟩
      | panic ch => exact ⟨_, a₁, w₁, hq, .pass (x := .inLoop c) rfl (fun _ _ => .inl (by simp)) harr⟩
      | outgrown => exact ⟨_, a₁, w₁, hq, .pass (x := .inLoop c) rfl (fun _ _ => .inl (by simp)) harr⟩
  obtain ⟨e, a', w', hq, harr⟩ := key k a w h₀
  exact ⟨e, a', w', hq, .of_steps (.one step_loop) harr⟩
theorem AWp.loop {P : Program} {n' : Nat} {c : Code} {Q : Exit → St → Prop} (I : Nat → St → Prop)
    (round : ∀ k st, I k st → AWp P n' c st (thenQ (fun st' => ∃ k', k' < k ∧ I k' st') Q)) {k : Nat} {st : St} (h : I k st) : AWp P n' (.loop c) st Q := by
  intro F a w pr lam hF hs
  refine wp_loop_ix (fun k a w => ∃ st pr lam, I k st ∧ SRel P F st a w pr lam) ?_ k a w ⟨st, pr, lam, h, hs⟩
  rintro k a w ⟨st, pr, lam, hI, hs⟩
  refine wp_mono (round k st hI F a w pr lam hF hs) ?_
  rintro e a' w' ⟨st', pr', lam', q, r⟩
  cases e with
  | normal => obtain ⟨k', h1, h2⟩ := q; exact ⟨k', h1, st', pr', lam', h2, r⟩
  | exit id => exact ⟨st', pr', lam', q, r⟩
  | goto l => exact ⟨st', pr', lam', q, r⟩
  | ret => exact ⟨st', pr', lam', q, r⟩
  | panic c => exact ⟨st', pr', lam', q, r⟩
  | outgrown => exact ⟨st', pr', lam', q, r⟩
def St.init (args : List V) (ins : List Box) : St :=
  { nb := ins.length, sl := fun s => (args.getD s .un, some (2000000, 0)), box := fun i => ins[i]? }
def resOne (st : St) (P : Program) : ResultVar → Option V
  | .tmp t => some (st.env t)
  | .cell a t => match st.env a with
    | .loc i off => (match st.box i, aggT P t with
      | some B, some true => (match sizeT P t with | some n => if B.ty < 1000000000 ∧ off + n ≤ B.cells.length then some (.agg ((B.cells.drop off).take n)) else none | none => none)
      | some B, some false => if B.ty < 1000000000 then B.cells[off]? else none
      | _, _ => none)
    | _ => none
def resAll (st : St) (P : Program) : List ResultVar → Option (List V)
  | [] => some []
  | r :: rs => match resOne st P r, resAll st P rs with
    | some v, some vs => some (v :: vs)
    | _, _ => none
def resV (st : St) (P : Program) (rs : List ResultVar) : Option V :=
  match resAll st P rs with
  | some [v] => some v
  | some vs => some (.tup vs)
  | none => none
def endQ (P : Program) (rs : List ResultVar) (res : V) (outs : List Box) : Exit → St → Prop
  | .ret, st | .normal, st => resV st P rs = some res ∧ (∀ i B, outs[i]? = some B → st.box i = some B)
  | _, _ => False
section
variable {P : Program} {F : Fr} {st : St} {a : Act} {w : World} {pr : Nat → Nat → Prop} {lam : Nat → Option Nat}
theorem resOne_run (h : SRel P F st a w pr lam) {g : ResultVar → Sem Value} (g1 : ∀ t, g (.tmp t) = pure (a.tmps.getD t undef)) (g2 : ∀ p t, g (.cell p t) = do loadVar t (← asAddr (a.tmps.getD p undef)))
    {r : ResultVar} {v : V} (hv : resOne st P r = some v) : ∃ x, (g r).run P w = .ok x w ∧ R ⟨w, pr, lam⟩ v x := by
  cases r with
  | tmp t =>
    simp only [resOne, Option.some.injEq] at hv
    subst hv
    rw [g1]
    exact ⟨_, rfl, h.env t⟩
  | cell p t =>
    rw [g2]
    simp only [resOne] at hv
    split at hv
    · rename_i i off hp
      have hr := h.env p
      rw [hp] at hr
      simp only [R] at hr
      obtain ⟨b, hl, e⟩ := hr
      split at hv
      · rename_i B hB ha
        split at hv
        · rename_i n hs
          split at hv
          · rename_i hfit
            obtain ⟨hpl, hfit⟩ := hfit
            simp only [Option.some.injEq] at hv; subst hv
            obtain ⟨b', q1, hat, _⟩ := h.box i B hB
            obtain ⟨cur, q2, q3, q4⟩ := hat.cells hpl
            obtain rfl : b = b' := by rw [show lam i = some b from hl] at q1; cases q1; rfl
            have hlen : ((cur.toList.drop off).take n).length = n := by
              have := q3.length
              simp at this ⊢; omega
            have hrun : (loadVar t ⟨b, off, none⟩).run P w = .ok (.agg ((cur.toList.drop off).take n).toArray) w :=
              run_loadVar_agg ha (by rw [hlen]; exact hs) (fun j y hy => by
                rw [List.getElem?_take] at hy
                split at hy
                · rw [List.getElem?_drop] at hy
                  simpa [World.cell?, q2] using hy
                · cases hy)
            refine ⟨_, by simp only [e, asAddr, Sem.run_bind, Sem.run_pure, Result.andThen_ok]; exact hrun, ?_⟩
            simp only [R]
            exact ⟨_, rfl, (q3.drop off).take n, fun y hy => q4 y (List.mem_of_mem_drop (List.mem_of_mem_take hy))⟩
          · cases hv
        · cases hv
      · rename_i B hB ha
        split at hv
        · rename_i hpl
          obtain ⟨b', q1, hat, _⟩ := h.box i B hB
          obtain ⟨cur, q2, q3, q4⟩ := hat.cells hpl
          obtain rfl : b = b' := by rw [show lam i = some b from hl] at q1; cases q1; rfl
          obtain ⟨y, hy, hr⟩ := q3.get off v hv
          have hcell : w.cell? ⟨b, off, none⟩ = some y := by simpa [World.cell?, q2] using hy
          exact ⟨y, by simp only [e, asAddr, Sem.run_bind, Sem.run_pure, Result.andThen_ok]; exact run_loadVar_one ha hcell, hr⟩
        · cases hv
      · cases hv
    · cases hv
theorem resAll_run (h : SRel P F st a w pr lam) {g : ResultVar → Sem Value} (g1 : ∀ t, g (.tmp t) = pure (a.tmps.getD t undef)) (g2 : ∀ p t, g (.cell p t) = do loadVar t (← asAddr (a.tmps.getD p undef))) :
    ∀ (rs : List ResultVar) (vs : List V), resAll st P rs = some vs → ∃ xs : List Value, (rs.mapM g).run P w = .ok xs w ∧ RL ⟨w, pr, lam⟩ vs xs
  | [], vs, hv => by
    simp only [resAll, Option.some.injEq] at hv; subst hv
    exact ⟨[], by simp, by simp [RL]⟩
  | r :: rs, vs, hv => by
    simp only [resAll] at hv
    split at hv
    · rename_i v vs' h1 h2
      simp only [Option.some.injEq] at hv; subst hv
      obtain ⟨x, q1, q2⟩ := resOne_run h g1 g2 h1
      obtain ⟨xs, q3, q4⟩ := resAll_run h g1 g2 rs vs' h2
      refine ⟨x :: xs, ?_, by simp only [RL]; exact ⟨x, xs, rfl, q2, q4⟩⟩
      simp only [List.mapM_cons, Sem.run_bind, q1, q3, Result.andThen_ok, Sem.run_pure]
    · cases hv
theorem results_run (h : SRel P F st a w pr lam) {fn : Func} {v : V} (hv : resV st P fn.results.toList = some v) : ∃ x, (results fn a.tmps).run P w = .ok x w ∧ R ⟨w, pr, lam⟩ v x := by
  unfold resV at hv
  cases hr : resAll st P fn.results.toList with
  | none => rw [hr] at hv; cases hv
  | some vs =>
    rw [hr] at hv
    have key : ∀ g : ResultVar → Sem Value, (∀ t, g (.tmp t) = pure (a.tmps.getD t undef)) → (∀ p t, g (.cell p t) = do loadVar t (← asAddr (a.tmps.getD p undef))) →
        ∃ xs : List Value, (do let vs ← fn.results.mapM g; pure (if h : vs.size = 1 then vs[0] else .tuple vs) : Sem Value).run P w = .ok (if h : xs.toArray.size = 1 then xs.toArray[0] else .tuple xs.toArray) w ∧ RL ⟨w, pr, lam⟩ vs xs := by
      intro g g1 g2
      obtain ⟨xs, q1, q2⟩ := resAll_run h g1 g2 _ vs hr
      refine ⟨xs, ?_, q2⟩
      have hmm : (fn.results.mapM g).run P w = .ok xs.toArray w := by
        rw [← Array.toArray_toList (xs := fn.results), List.mapM_toArray]
        simp [q1]
      simp only [Sem.run_bind, hmm, Result.andThen_ok, Sem.run_pure]
    obtain ⟨xs, q1, q2⟩ := key (fun r => match r with | .tmp t => pure (a.tmps.getD t undef) | .cell p t => do loadVar t (← asAddr (a.tmps.getD p undef))) (fun _ => rfl) (fun _ _ => rfl)
    refine ⟨_, q1, ?_⟩
    match vs, xs, q2, hv with
    | [u], [x], q2, hv =>
      simp only [Option.some.injEq] at hv; subst hv
      simp only [RL] at q2
      obtain ⟨y, ys, e, q2, rfl⟩ := q2
      simp only [List.cons.injEq, and_true] at e
      subst e
      simpa using q2
    | [], xs, q2, hv =>
      simp only [Option.some.injEq] at hv; subst hv
      have := q2.length
      have hx : xs = [] := List.eq_nil_of_length_eq_zero (by simpa using this.symm)
      subst hx
      simp only [R]
      exact ⟨[], by simp, by simp [RL]⟩
    | u :: u' :: us, xs, q2, hv =>
      simp only [Option.some.injEq] at hv; subst hv
      have hl := q2.length
      simp only [R]
      refine ⟨xs, ?_, q2⟩
      rw [dif_neg]
      simp at hl ⊢; omega
    | [_], [], q2, _ => have := q2.length; simp at this
    | [_], _ :: _ :: _, q2, _ => have := q2.length; simp at this
end
theorem calls_of_AWp {P : Program} {f : FuncId} {fn : Func} {c : Code} {args : List V} {ins : List Box} (hf : P.funcs[f]? = some fn) (hb : fn.body = some c)
    (hsz : args.length ≤ fn.ntmps) {Q : Exit → St → Prop} (h : AWp P fn.ntmps c (St.init args ins) Q)
    {w : World} {pr : Nat → Nat → Prop} {lam : Nat → Option Nat} {cargs : Array Value} (hlt : HL w pr) (hargs : RL ⟨w, pr, lam⟩ args cargs.toList) (hins : InRel w pr lam ins)
    (hinj : ∀ i j b, lam i = some b → lam j = some b → i = j) (hlam : ∀ i, ins.length ≤ i → lam i = none) {Post : Ending → World → Prop}
    (fin : ∀ (F : Fr) (ex : Exit) (st' : St) (a' : Act) (w' : World) (pr' : Nat → Nat → Prop) (lam' : Nat → Option Nat), F.w0 = w → F.pr0 = pr → F.lam0 = lam → F.io = (fun b => ∃ i, lam i = some b) → F.hd = none → Q ex st' → SRel P F st' a' w' pr' lam' →
      (ex = .ret ∨ ex = .normal) ∧ ∃ v, (results fn a'.tmps).run P w' = .ok v w' ∧ Post (.returned v) w') : Calls P f cargs w Post := by
  have hal := hargs.length
  simp at hal
  have hgl : ∀ g vs, GL g = some vs → (∃ ty, w.heap[g]? = some (.cells vs.toArray ty (0, 0))) ∧ ¬ (∃ i, lam i = some g) ∧ ∀ i, i < vs.length → pr g i := fun g vs hg => by
    obtain ⟨h1, h2⟩ := hlt.glob g vs hg
    refine ⟨h1, fun ⟨i, hi⟩ => ?_, h2⟩
    have hil : i < ins.length := by
      rcases Nat.lt_or_ge i ins.length with q | q
      · exact q
      · rw [hlam i q] at hi; cases hi
    obtain ⟨b, q1, _, q3⟩ := hins i _ (List.getElem?_eq_getElem hil)
    rw [hi] at q1; cases q1
    exact q3 0 (h2 0 (GL_pos g vs hg))
  let F : Fr := { nt := fn.ntmps, lam0 := lam, w0 := w, pr0 := pr, io := fun b => ∃ i, lam i = some b, hd := none, hd0 := (fun b o h => by cases h), gl := fun g vs hg => ⟨(hgl g vs hg).1, ⟨(hgl g vs hg).2.1, by simp⟩, (hgl g vs hg).2.2⟩, lt0 := hlt.lt }
  have hold : ∀ s t e, (St.init args ins).tok s = some (t, e) → tcl t = 2 := fun s t e hs => by cases hs; rfl
  have gb2 : ∀ x, gblock 2 x = none := fun x => by unfold gblock; split <;> simp
  have henv0 : ∀ s, R ⟨w, pr, lam⟩ ((St.init args ins).env s) ((cargs ++ Array.replicate (fn.ntmps - cargs.size) undef).getD s undef) := by
    intro s
    show R _ (args.getD s .un) _
    by_cases hlt' : s < args.length
    · have : args.getD s .un = args[s] := by simp [List.getD, List.getElem?_eq_getElem hlt']
      rw [this]
      obtain ⟨x, hx, hr⟩ := hargs.get s _ (List.getElem?_eq_getElem hlt')
      have hx' : cargs[s]? = some x := by simpa using hx
      have hsz' : s < cargs.size := by omega
      have : (cargs ++ Array.replicate (fn.ntmps - cargs.size) undef).getD s undef = x := by
        rw [Array.getD_eq_getD_getElem?, Array.getElem?_append, if_pos hsz', hx']; rfl
      show R _ _ ((cargs ++ Array.replicate (fn.ntmps - cargs.size) undef).getD s undef)
      rw [this]
      exact hr
    · have : args.getD s .un = .un := by simp [List.getD, List.getElem?_eq_none (by omega : args.length ≤ s)]
      rw [this]
      show R _ _ ((cargs ++ Array.replicate (fn.ntmps - cargs.size) undef).getD s undef)
      simp only [R]
      rw [Array.getD_eq_getD_getElem?, Array.getElem?_append, if_neg (by omega), Array.getElem?_replicate]
      split <;> rfl
  have hs : SRel P F (St.init args ins) { tmps := cargs ++ Array.replicate (fn.ntmps - cargs.size) undef, defers := [] } w pr lam := by
    refine ⟨?_, rfl, fun s => ?_, (fun s t e hs g hg => by rw [hold s t e hs, gb2] at hg; cases hg), (fun s s' t t' e e' g hs _ hg => by rw [hold s t e hs, gb2] at hg; cases hg), fun i B hB => ?_, ?_, (fun i B b s t e _ _ hs => by rw [hold s t e hs, gb2]; simp), ?_, hlt.lt, ⟨rfl, rfl, rfl, DLE.refl _, Nat.le_refl _, fun _ _ _ _ => rfl⟩, fun _ _ h => h, fun _ _ h => .inl h, fun _ _ h => h,
      (fun s s' t e e' hs _ hc => by rw [hold s t e hs] at hc; cases hc), fun s t e hs hc => henv0 s, (fun s s' t e e' b o g hs => by have := hold s _ e hs; unfold tcl at this; omega)⟩
    · show (cargs ++ Array.replicate (fn.ntmps - cargs.size) undef).size = fn.ntmps
      simp; omega
    · exact henv0 s
    · obtain ⟨b, q1, q2, q5⟩ := hins i B hB
      exact ⟨b, q1, q2, q5, .inr ⟨i, q1⟩⟩
    · intro i j B B' b _ _ h1 h2; exact hinj i j b h1 h2
    · intro i hi
      refine hlam i ?_
      have : ins[i]? = none := hi
      simpa using this
  have hwp := h F _ w pr lam rfl hs
  refine calls_of_wp hf hb (wp_mono hwp ?_)
  rintro ex a' w' ⟨st', pr', lam', hq, hr⟩
  obtain ⟨hex, v, h1, h2⟩ := fin F ex st' a' w' pr' lam' rfl rfl rfl rfl rfl hq hr
  rcases hex with rfl | rfl
  · exact ⟨hr.defers, v, h1, h2⟩
  · exact ⟨hr.defers, v, h1, h2⟩
theorem left_of {P : Program} {F : Fr} {st : St} {a : Act} {w w' : World} {pr pr' : Nat → Nat → Prop} {lam lam' : Nat → Option Nat} (hr : SRel P F st a w' pr' lam') (e1 : F.w0 = w) (e2 : F.pr0 = pr) (e4 : F.io = (fun b => ∃ i, lam i = some b)) (e5 : F.hd = none) : Left w pr lam w' pr' := by
  subst e1; subst e2
  refine ⟨hr.keep.os, hr.keep.tape, hr.keep.output, hr.keep.drawn, hr.keep.size, fun k hk hn => hr.keep.block k hk (fun hi => ?_) (by rw [e5]; simp), hr.prsub, fun b o hp => ?_⟩
  · rw [e4] at hi
    obtain ⟨i, hi⟩ := hi
    exact hn i hi
  · rcases hr.prnew b o hp with h1 | h1 | h1
    · exact .inl h1
    · exact .inr ⟨h1, hr.prlt b o hp⟩
    · rw [e5] at h1; cases h1
theorem Fn.of_AWp {P : Program} {f : FuncId} {fn : Func} {c : Code} {args : List V} {ins outs : List Box} {res : V} (hf : P.funcs[f]? = some fn) (hb : fn.body = some c)
    (hsz : args.length ≤ fn.ntmps) (hnl : res.noLoc = true) (hno : ∀ B ∈ outs, V.noLocL B.cells = true)
    (hio : outs.length ≤ ins.length)
    (h : AWp P fn.ntmps c (St.init args ins) (endQ P fn.results.toList res outs)) : Fn P f args ins res outs := by
  intro w pr lam cargs hlt hargs hins hinj hlam
  refine calls_of_AWp hf hb hsz h hlt hargs hins hinj hlam ?_
  intro F ex st' a' w' pr' lam' e1 e2 e3 e4 e5 hq hr
  have hq' : (ex = .ret ∨ ex = .normal) ∧ resV st' P fn.results.toList = some res ∧ (∀ i B, outs[i]? = some B → st'.box i = some B) := by
    cases ex <;> first | exact ⟨.inl rfl, hq⟩ | exact ⟨.inr rfl, hq⟩ | exact hq.elim
  obtain ⟨hex, hres, hout⟩ := hq'
  obtain ⟨x, hx, hrx⟩ := results_run hr hres
  refine ⟨hex, x, hx, x, pr', rfl, hrx.noLoc _ _ hnl, fun i B hB => ?_, left_of hr e1 e2 e4 e5⟩
  obtain ⟨b, q1, q2, q5, _⟩ := hr.box i B (hout i B hB)
  have hil : i < ins.length := by
    have := (List.getElem?_eq_some_iff.1 hB).1
    omega
  obtain ⟨b0, p1, _⟩ := hins i _ (List.getElem?_eq_getElem hil)
  have hbb : b0 = b := by
    have := hr.lamsub i b0 (by rw [e3]; exact p1)
    rw [q1] at this; cases this; rfl
  subst hbb
  exact ⟨b0, p1, q2.noLoc (hno B (List.mem_of_getElem? hB)), q5⟩
def endO (P : Program) (rs : List ResultVar) (res : V) (e : TypeId) : Exit → St → Prop
  | .ret, st | .normal, st => ∃ s t, rs = [.tmp s] ∧ st.env s = res ∧ st.tok s = some (t, e) ∧ tcl t = 0
  | _, _ => False
theorem FnO.of_AWp {P : Program} {f : FuncId} {fn : Func} {c : Code} {args : List V} {res : V} {e : TypeId} (hf : P.funcs[f]? = some fn) (hb : fn.body = some c)
    (hsz : args.length ≤ fn.ntmps) (hnl : res.noLoc = true) (h : AWp P fn.ntmps c (St.init args []) (endO P fn.results.toList res e)) : FnO P f args res e := by
  intro w pr cargs hlt hargs
  refine calls_of_AWp hf hb hsz h hlt hargs (fun i B hi => by simp at hi) (fun i j b hi => by cases hi) (fun _ _ => rfl) ?_
  intro F ex st' a' w' pr' lam' e1 e2 e3 e4 e5 hq hr
  have hq' : (ex = .ret ∨ ex = .normal) ∧ ∃ s t, fn.results.toList = [.tmp s] ∧ st'.env s = res ∧ st'.tok s = some (t, e) ∧ tcl t = 0 := by
    cases ex <;> first | exact ⟨.inl rfl, hq⟩ | exact ⟨.inr rfl, hq⟩ | exact hq.elim
  obtain ⟨hex, s, t, h1, h2, h3, h4⟩ := hq'
  have hres : resV st' P fn.results.toList = some res := by
    rw [h1]
    simp only [resV, resAll, resOne, Option.some.injEq]
    first | rfl | simp [h2]
  obtain ⟨x, hx, hrx⟩ := results_run hr hres
  have hxs : x = a'.tmps.getD s undef := by
    have hfr : fn.results = #[.tmp s] := by
      rw [← Array.toList_inj, h1]
    simp [results, hfr, Sem.run_pure] at hx
    rw [← hx]
    simp
  refine ⟨hex, x, hx, x, pr', rfl, hrx.noLoc _ _ hnl, left_of hr e1 e2 e4 e5, ?_⟩
  have := hr.own s t e h3
  rw [h4] at this
  rw [hxs, ← e1]
  intro g hg
  obtain ⟨q1, q2⟩ := this g hg
  refine ⟨?_, q2⟩
  rcases q1 with q1 | q1
  · exact q1
  · rw [e5] at q1; cases q1
end Go.Eng
