import Derived.Test.YtjcbpfhlgebgdaaE6
set_option linter.unusedSimpArgs false
set_option linter.unusedVariables false
namespace Go.Eng
open Go.RowKit
mutual
def V.noLoc : V → Bool
  | .loc _ _ => false
  | .mref _ => false
  | .agg cs => V.noLocL cs
  | .tup cs => V.noLocL cs
  | .elt cs _ => V.noLocL cs
  | .list rows => V.noLocL rows
  | .fn _ first cap => V.noLocL first && V.noLocL cap
  | .iface _ v => v.noLoc
  | _ => true
def V.noLocL : List V → Bool
  | [] => true
  | c :: cs => c.noLoc && V.noLocL cs
end
mutual
theorem R.noLoc {w : World} {pr : Nat → Nat → Prop} {lam lam' : Nat → Option Nat} : ∀ (v : V) (x : Value), v.noLoc = true → R ⟨w, pr, lam⟩ v x → R ⟨w, pr, lam'⟩ v x
  | .any, _, _, _ => by simp [R]
  | .un, _, _, q => by simpa [R] using q
  | .int _ _, _, _, q => by simpa [R] using q
  | .bool _, _, _, q => by simpa [R] using q
  | .str _, _, _, q => by simpa [R] using q
  | .agg cs, _, n, q => by
    simp only [V.noLoc] at n
    simp only [R] at q ⊢
    obtain ⟨xs, e, q, q1⟩ := q
    exact ⟨xs, e, RL.noLoc cs xs n q, q1⟩
  | .tup cs, _, n, q => by
    simp only [V.noLoc] at n
    simp only [R] at q ⊢
    obtain ⟨xs, e, q⟩ := q
    exact ⟨xs, e, RL.noLoc cs xs n q⟩
  | .loc i off, _, n, _ => by simp [V.noLoc] at n
  | .elt cs off, _, n, q => by
    simp only [V.noLoc] at n
    simp only [R] at q ⊢
    obtain ⟨b, o, e, q⟩ := q
    exact ⟨b, o, e, RC.noLoc b o cs n q⟩
  | .nilp, _, _, q => by simpa [R] using q
  | .list rows, _, n, q => by
    simp only [V.noLoc] at n
    simp only [R] at q ⊢
    obtain ⟨base, cap, e, hc, hm, q⟩ := q
    refine ⟨base, cap, e, hc, hm, ?_⟩
    rcases q with q | ⟨b, o, k, e2, q⟩
    · exact .inl q
    · exact .inr ⟨b, o, k, e2, RR.noLoc b k o rows n q⟩
  | .fn f first cap, _, n, q => by
    simp only [V.noLoc, Bool.and_eq_true] at n
    simp only [R] at q ⊢
    obtain ⟨xs, ys, e, q1, q2⟩ := q
    exact ⟨xs, ys, e, RL.noLoc _ _ n.1 q1, RL.noLoc _ _ n.2 q2⟩
  | .nilfn, _, _, q => by simpa [R] using q
  | .iface t v, _, n, q => by
    simp only [V.noLoc] at n
    simp only [R] at q ⊢
    obtain ⟨y, e, q⟩ := q
    exact ⟨y, e, R.noLoc v y n q⟩
  | .nilif, _, _, q => by simpa [R] using q
  | .mref _, _, n, _ => by simp [V.noLoc] at n
  | .nilm, _, _, q => by simpa [R] using q
  | .ptr _, _, _, q => by simpa [R] using q
theorem RL.noLoc {w : World} {pr : Nat → Nat → Prop} {lam lam' : Nat → Option Nat} : ∀ (cs : List V) (xs : List Value), V.noLocL cs = true → RL ⟨w, pr, lam⟩ cs xs → RL ⟨w, pr, lam'⟩ cs xs
  | [], _, _, q => by simpa [RL] using q
  | c :: cs, _, n, q => by
    simp only [V.noLocL, Bool.and_eq_true] at n
    simp only [RL] at q ⊢
    obtain ⟨y, ys, e, q1, q2⟩ := q
    exact ⟨y, ys, e, R.noLoc c y n.1 q1, RL.noLoc cs ys n.2 q2⟩
theorem RC.noLoc {w : World} {pr : Nat → Nat → Prop} {lam lam' : Nat → Option Nat} (b : Nat) : ∀ (o : Nat) (cs : List V), V.noLocL cs = true → RC ⟨w, pr, lam⟩ b o cs → RC ⟨w, pr, lam'⟩ b o cs
  | _, [], _, _ => by simp [RC]
  | o, c :: cs, n, q => by
    simp only [V.noLocL, Bool.and_eq_true] at n
    simp only [RC] at q ⊢
    obtain ⟨⟨y, q0, q3, q1⟩, q2⟩ := q
    exact ⟨⟨y, q0, q3, R.noLoc c y n.1 q1⟩, RC.noLoc b (o + 1) cs n.2 q2⟩
theorem RR.noLoc {w : World} {pr : Nat → Nat → Prop} {lam lam' : Nat → Option Nat} (b k : Nat) : ∀ (o : Nat) (cs : List V), V.noLocL cs = true → RR ⟨w, pr, lam⟩ b k o cs → RR ⟨w, pr, lam'⟩ b k o cs
  | _, [], _, _ => by simp [RR]
  | o, c :: cs, n, q => by
    simp only [V.noLocL, Bool.and_eq_true] at n
    simp only [RR] at q ⊢
    obtain ⟨⟨y, q0, q1, q3⟩, q2⟩ := q
    exact ⟨⟨y, R.noLoc c y n.1 q0, q1, q3⟩, RR.noLoc b k (o + k) cs n.2 q2⟩
end
theorem RM.noLoc {w : World} {pr : Nat → Nat → Prop} {lam lam' : Nat → Option Nat} : ∀ (cs : List V) (es : List MapEntry), V.noLocL cs = true → RM ⟨w, pr, lam⟩ cs es → RM ⟨w, pr, lam'⟩ cs es
  | [], _, _, q => by simpa [RM] using q
  | c :: cs, _, n, q => by
    simp only [V.noLocL, Bool.and_eq_true] at n
    simp only [RM] at q ⊢
    obtain ⟨k, v, e, es', rfl, h2, h3, h4, h5⟩ := q
    simp only [V.noLoc, V.noLocL, Bool.and_eq_true] at n
    exact ⟨k, v, e, es', rfl, h2, h3.noLoc _ _ n.1.1, h4.noLoc _ _ n.1.2.1, RM.noLoc cs es' n.2 h5⟩
theorem BoxAt.noLoc {w : World} {pr : Nat → Nat → Prop} {lam lam' : Nat → Option Nat} {b : Nat} {B : Box} (n : V.noLocL B.cells = true) (h : BoxAt ⟨w, pr, lam⟩ b B) : BoxAt ⟨w, pr, lam'⟩ b B := by
  refine ⟨fun ht => ?_, fun ht => ?_⟩
  · obtain ⟨cur, h1, h2, h3⟩ := h.cells ht
    exact ⟨cur, h1, RL.noLoc _ _ n h2, h3⟩
  · obtain ⟨es, clock, h1, h2⟩ := h.map ht
    exact ⟨es, clock, h1, RM.noLoc _ _ n h2.1, h2.2⟩
def InRel (w : World) (pr : Nat → Nat → Prop) (lam : Nat → Option Nat) (bs : List Box) : Prop :=
  ∀ i B, bs[i]? = some B → ∃ b, lam i = some b ∧ BoxAt ⟨w, pr, lam⟩ b B ∧ (∀ o, ¬ pr b o)
structure Left (w : World) (pr : Nat → Nat → Prop) (lam : Nat → Option Nat) (w' : World) (pr' : Nat → Nat → Prop) : Prop where
  os : w'.os = w.os
  tape : w'.tape = w.tape
  output : w'.output = w.output
  drawn : DLE w w'
  size : w.heap.size ≤ w'.heap.size
  block : ∀ k, k < w.heap.size → (∀ i, lam i ≠ some k) → w'.heap[k]? = w.heap[k]?
  sub : ∀ b o, pr b o → pr' b o
  new : ∀ b o, pr' b o → pr b o ∨ (w.heap.size ≤ b ∧ b < w'.heap.size)
def Fn (P : Program) (f : FuncId) (args : List V) (ins : List Box) (res : V) (outs : List Box) : Prop :=
  ∀ (w : World) (pr : Nat → Nat → Prop) (lam : Nat → Option Nat) (cargs : Array Value),
    HL w pr → RL ⟨w, pr, lam⟩ args cargs.toList → InRel w pr lam ins →
    (∀ i j b, lam i = some b → lam j = some b → i = j) → (∀ i, ins.length ≤ i → lam i = none) →
    Calls P f cargs w fun e w' => ∃ v pr', e = .returned v ∧ R ⟨w', pr', lam⟩ res v ∧ InRel w' pr' lam outs ∧ Left w pr lam w' pr'
def isGo (P : Program) (f : FuncId) : Bool := match P.funcs[f]? with
  | some fn => fn.name != "runtime.NumGoroutine" && fn.body.isSome
  | none => false
section
variable {P : Program} {o : Oper} {ρ : Operand → V} {bx : Nat → Option Box}
theorem run_callFunc {f : FuncId} (h : isGo P f = true) (args : Array Value) (w : World) : (callFunc f args).run P w = .ok (.enter f args) w := by
  unfold isGo at h
  cases hf : P.funcs[f]? with
  | none => rw [hf] at h; cases h
  | some fn =>
    rw [hf] at h
    simp only [Bool.and_eq_true, bne_iff_ne, ne_eq] at h
    obtain ⟨h1, h2⟩ := h
    cases hb : fn.body with
    | none => rw [hb] at h2; cases h2
    | some c => simp [callFunc, hf, h1, hb]
theorem RL_map_eval {E : Env} {ac : Act} : ∀ (l : List Operand), (∀ x ∈ l, R E (ρ x) (ac.eval x)) → RL E (l.map ρ) (l.map ac.eval)
  | [], _ => by simp [RL]
  | x :: l, h => by
    simp only [List.map_cons, RL]
    exact ⟨_, _, rfl, h x (by simp), RL_map_eval l fun y hy => h y (by simp [hy])⟩
theorem exec_call {c : Operand} {args : Array Operand} {tys : Array TypeId} {f : FuncId} {xs ys : List Value} {ac : Act} {w : World} (ho : o.op = .call { callee := .value c, args := args, argTypes := tys })
    (hc : ac.eval c = .func (.func f) xs.toArray ys.toArray) (hg : isGo P f = true) :
    (execOp ac.eval o).run P w = .ok (.enter f (xs.toArray ++ args.map ac.eval ++ ys.toArray)) w := by
  simp only [execOp, ho, resolve, hc, Deferred.ofValue, Sem.run_bind, Sem.run_pure, Result.andThen_ok, invoke, run_callFunc hg]
theorem qv_call {c : Operand} {args : Array Operand} {tys : Array TypeId} {f : FuncId} {first cap : List V} {res : V} (ho : o.op = .call { callee := .value c, args := args, argTypes := tys })
    (hc : ρ c = .fn (.func f) first cap) (hg : isGo P f = true) (hn : V.noLocL (first ++ args.toList.map ρ ++ cap) = true)
    (hf : Fn P f (first ++ args.toList.map ρ ++ cap) [] res []) : QV P o ρ bx res none := by
  intro a w pr lam hlt hop _ next Q hk
  have h1 := hop c (by simp [ho, Op.operands, Call.operands])
  rw [hc] at h1
  simp only [R] at h1
  obtain ⟨xs, ys, e1, q1, q2⟩ := h1
  have q3 := RL_map_eval (ρ := ρ) (E := ⟨w, pr, lam⟩) (ac := a) args.toList fun x hx => hop x (by simp [ho, Op.operands, Call.operands]; exact .inr (by simpa using hx))
  unfold Oper.wp
  rw [exec_call ho e1 hg, Oper.upon_enter]
  refine (hf w pr (fun _ => none) _ hlt ?_ ?_ ?_ ?_).mono ?_
  · have := RL.noLoc (lam' := fun _ => none) _ _ hn ((q1.append q3).append q2)
    simpa using this
  · intro i B hi; simp at hi
  · intro i j b hi; cases hi
  · intro _ _; rfl
  · rintro e w' ⟨v, pr', rfl, hr, _, hl⟩
    have hext : Ext w pr w' pr' := ⟨⟨hl.os, hl.tape, hl.output, hl.size, fun k hk' => hl.block k hk' (fun i hi => by cases hi)⟩, hl.drawn, hl.sub, hl.new⟩
    have hle : Env.Le ⟨w', pr', fun _ => none⟩ ⟨w', pr', lam⟩ := ⟨(fun i b hi => by cases hi), fun _ _ h => h, fun _ _ _ => rfl⟩
    exact hk v w' pr' hext (hr.mono hle) (fun c e he => (by cases he))
def FnO (P : Program) (f : FuncId) (args : List V) (res : V) (e : TypeId) : Prop :=
  ∀ (w : World) (pr : Nat → Nat → Prop) (cargs : Array Value), HL w pr → RL ⟨w, pr, fun _ => none⟩ args cargs.toList →
    Calls P f cargs w fun en w' => ∃ v pr', en = .returned v ∧ R ⟨w', pr', fun _ => none⟩ res v ∧ Left w pr (fun _ => none) w' pr' ∧ Own P (fun g => w.heap.size ≤ g) ⟨w', pr', fun _ => none⟩ 0 e v
theorem qv_callO {c : Operand} {args : Array Operand} {tys : Array TypeId} {f : FuncId} {first cap : List V} {res : V} {e : TypeId} (ho : o.op = .call { callee := .value c, args := args, argTypes := tys })
    (hc : ρ c = .fn (.func f) first cap) (hg : isGo P f = true) (hn : V.noLocL (first ++ args.toList.map ρ ++ cap) = true)
    (hf : FnO P f (first ++ args.toList.map ρ ++ cap) res e) : QV P o ρ bx res (some (0, e)) := by
  intro a w pr lam hlt hop _ next Q hk
  have h1 := hop c (by simp [ho, Op.operands, Call.operands])
  rw [hc] at h1
  simp only [R] at h1
  obtain ⟨xs, ys, e1, q1, q2⟩ := h1
  have q3 := RL_map_eval (ρ := ρ) (E := ⟨w, pr, lam⟩) (ac := a) args.toList fun x hx => hop x (by simp [ho, Op.operands, Call.operands]; exact .inr (by simpa using hx))
  unfold Oper.wp
  rw [exec_call ho e1 hg, Oper.upon_enter]
  refine (hf w pr _ hlt ?_).mono ?_
  · have := RL.noLoc (lam' := fun _ => none) _ _ hn ((q1.append q3).append q2)
    simpa using this
  · rintro en w' ⟨v, pr', rfl, hr, hl, hown⟩
    have hext : Ext w pr w' pr' := ⟨⟨hl.os, hl.tape, hl.output, hl.size, fun k hk' => hl.block k hk' (fun i hi => by cases hi)⟩, hl.drawn, hl.sub, hl.new⟩
    have hle : Env.Le ⟨w', pr', fun _ => none⟩ ⟨w', pr', lam⟩ := ⟨(fun i b hi => by cases hi), fun _ _ h => h, fun _ _ _ => rfl⟩
    exact hk v w' pr' hext (hr.mono hle) (fun c' e' he => by cases he; exact ⟨by decide, hown⟩)
def fillV (place : Nat → Option (Nat × Nat)) (cells : List V) : List (Nat × V) → Option (List V)
  | [] => some cells
  | (i, v) :: rest =>
    match place i, v.csize with
    | some (off, size), some n => if n ≠ size ∨ off + n > cells.length then none else fillV place (cells.take off ++ v.cellsL ++ cells.drop (off + n)) rest
    | _, _ => none
theorem foldl_set (xs : List Value) : ∀ (j : Nat) (cs : Array Value) (off : Nat), off + j + xs.length ≤ cs.size →
    ((xs.zipIdx j).foldl (fun cs (c, j) => cs.setIfInBounds (off + j) c) cs).toList = cs.toList.take (off + j) ++ xs ++ cs.toList.drop (off + j + xs.length) := by
  induction xs with
  | nil => intro j cs off h; simp
  | cons x xs ih =>
    intro j cs off h
    simp only [List.zipIdx_cons, List.foldl_cons]
    rw [ih (j + 1) _ off (by simp at h ⊢; omega)]
    have e := list_seg_step cs.toList (off + j) x xs (by simp at h ⊢; omega)
    simpa [Array.toList_setIfInBounds, Nat.add_assoc] using e
theorem fillV_spec {E : Env} {place : Nat → Option (Nat × Nat)} : ∀ (parts : List (Nat × V)) (vals : List (Nat × Value)) (cells : List V) (cur : Array Value) (out : List V),
    parts.map (·.1) = vals.map (·.1) → RL E (parts.map (·.2)) (vals.map (·.2)) → RL E cells cur.toList → (∀ y ∈ cur.toList, y.oneCell' = true) → fillV place cells parts = some out →
    ∃ cur' : Array Value, Instr.fill place cur vals = some cur' ∧ RL E out cur'.toList ∧ (∀ y ∈ cur'.toList, y.oneCell' = true)
  | [], vals, cells, cur, out, h1, _, h3, h4, h5 => by
    simp only [fillV, Option.some.injEq] at h5; subst h5
    have : vals = [] := by cases vals with | nil => rfl | cons _ _ => simp at h1
    subst this
    exact ⟨cur, rfl, h3, h4⟩
  | (i, v) :: parts, vals, cells, cur, out, h1, h2, h3, h4, h5 => by
    cases vals with
    | nil => simp at h1
    | cons x vals =>
      obtain ⟨i', x⟩ := x
      simp only [List.map_cons, List.cons.injEq] at h1
      obtain ⟨rfl, h1⟩ := h1
      simp only [List.map_cons, RL] at h2
      obtain ⟨y, ys, he, hv, h2⟩ := h2
      simp only [List.cons.injEq] at he
      obtain ⟨rfl, rfl⟩ := he
      simp only [fillV] at h5
      split at h5
      · rename_i off size n hp hn
        split at h5
        · cases h5
        · rename_i hc
          obtain ⟨hc1, hc2⟩ := not_or.1 hc
          have hc1 : n = size := Classical.byContradiction fun q => hc1 q
          subst hc1
          have hsz := hv.csize hn
          obtain ⟨r1, r2⟩ := hv.cells hn
          have hlen := h3.length
          simp at hlen
          have hfold := foldl_set x.cells.toList 0 cur off (by simp [hsz]; omega)
          simp only [Nat.add_zero, Array.length_toList, hsz] at hfold
          generalize hcur' : (x.cells.zipIdx.foldl (fun cs (c, j) => cs.setIfInBounds (off + j) c) cur) = cur'
          have hcur'' : cur'.toList = cur.toList.take off ++ x.cells.toList ++ cur.toList.drop (off + n) := by
            rw [← hfold, ← hcur', ← Array.foldl_toList, Array.toList_zipIdx]
          obtain ⟨cf, q1, q2, q3⟩ := fillV_spec parts vals _ cur' out h1 h2 (by
            rw [hcur'']; exact ((h3.take off).append r1).append (h3.drop (off + n))) (by
            intro z hz
            rw [hcur''] at hz
            simp only [List.mem_append] at hz
            rcases hz with (hz | hz) | hz
            · exact h4 z (List.mem_of_mem_take hz)
            · exact r2 z hz
            · exact h4 z (List.mem_of_mem_drop hz)) h5
          refine ⟨cf, ?_, q2, q3⟩
          simp only [Instr.fill, hp, hsz]
          rw [if_neg (by simp; omega), hcur']
          exact q1
      · cases h5
def placesT (P : Program) (t : TypeId) : Option (Nat → Option (Nat × Nat)) :=
  match P.underlying t with
  | some (.struct fs) => ((fs.toList.map fun f => (sizeT P f.type).map fun n => (f.offset, n)).mapM id).map fun l => fun i => l[i]?
  | some (.array _ e) => (sizeT P e).map fun n => fun i => some (i * n, n)
  | _ => none
theorem run_mapM_places {g : Field → Sem (Nat × Nat)} (hg : ∀ f n w, sizeT P f.type = some n → (g f).run P w = .ok (f.offset, n) w) : ∀ (fs : List Field) (l : List (Nat × Nat)) (w : World), (fs.map fun f => (sizeT P f.type).map fun n => (f.offset, n)).mapM id = some l →
    (fs.mapM g).run P w = .ok l w
  | [], l, w, h => by simp at h; subst h; simp
  | f :: fs, l, w, h => by
    cases hs : sizeT P f.type with
    | none => simp [hs] at h
    | some n =>
      cases hr : (fs.map fun f => (sizeT P f.type).map fun n => (f.offset, n)).mapM id with
      | none => simp [hs, hr] at h
      | some l' =>
        simp [hs, hr] at h
        subst h
        simp [List.mapM_cons, hg f n w hs, run_mapM_places hg fs l' w hr]
theorem qv_build {t : TypeId} {parts : Array (Nat × Operand)} {zv : V} {place : Nat → Option (Nat × Nat)} {out : List V} {n : Nat} (ho : o.op = .build t parts) (hz : zeroT P t = some zv) (hzn : zv.csize = some n)
    (hp : placesT P t = some place) (hf : fillV place zv.cellsL (parts.toList.map fun x => (x.1, ρ x.2)) = some out) : QV P o ρ bx (.agg out) none :=
  QV.pure fun ac w pr lam hop _ => by
    obtain ⟨i, z, z1, z2, rfl⟩ := zeroT_spec hz
    obtain ⟨r1, r2⟩ := (R_constV ⟨w, pr, lam⟩ z).cells hzn
    have hrel : RL ⟨w, pr, lam⟩ ((parts.toList.map fun x => (x.1, ρ x.2)).map (·.2)) ((parts.toList.map fun x => (x.1, ac.eval x.2)).map (·.2)) := by
      have := RL_map_eval (ρ := ρ) (E := ⟨w, pr, lam⟩) (ac := ac) (parts.toList.map (·.2)) fun x hx => hop x (by simp [ho, Op.operands]; simpa using hx)
      simpa [List.map_map, Function.comp_def] using this
    obtain ⟨cur, q1, q2, q3⟩ := fillV_spec _ (parts.toList.map fun x => (x.1, ac.eval x.2)) _ z.cells out (by simp [List.map_map, Function.comp_def]) hrel r1 r2 hf
    have hzero : (zeroValue t).run P w = .ok z w := by simp [zeroValue, typeInfo, z1, z2]
    refine ⟨.agg cur, ?_, by simp only [R]; exact ⟨cur.toList, by simp, q2, q3⟩⟩
    simp only [execOp, ho]
    unfold placesT at hp
    split at hp
    · rename_i fs hu
      cases hl : (fs.toList.map fun f => (sizeT P f.type).map fun n => (f.offset, n)).mapM id with
      | none => rw [hl] at hp; cases hp
      | some l =>
        rw [hl] at hp
        simp only [Option.map_some, Option.some.injEq] at hp
        subst hp
        have hm : ∀ g : Field → Sem (Nat × Nat), (∀ f n w, sizeT P f.type = some n → (g f).run P w = .ok (f.offset, n) w) → (fs.mapM g).run P w = .ok l.toArray w := by
          intro g hg
          rw [← Array.toArray_toList (xs := fs), List.mapM_toArray]
          simp [run_mapM_places hg fs.toList l w hl]
        have hm' := hm (fun f => Prod.mk f.offset <$> sizeOf f.type) (fun f n w hs => by simp [run_sizeOf hs])
        simp [Instr.build, hzero, run_underlying hu, hm', q1]
    · rename_i len e hu
      cases hs : sizeT P e with
      | none => rw [hs] at hp; cases hp
      | some m =>
        rw [hs] at hp
        simp only [Option.map_some, Option.some.injEq] at hp
        subst hp
        simp [Instr.build, hzero, run_underlying hu, run_sizeOf hs, q1]
    · cases hp
end
end Go.Eng
