import Derived.Test.YtjcbpfhlgebgdaaE8
import Derived.ChangeKeysEq
set_option linter.unusedSimpArgs false
set_option linter.unusedVariables false
namespace Go.Eng
open Go.RowKit
inductive CK where
  | int (k : IntKind) | bool | str
  deriving DecidableEq
def kindC : Value → Option CK
  | .int k _ => some (.int k)
  | .bool _ => some .bool
  | .string _ => some .str
  | _ => none
def kindV : V → Option CK
  | .int k _ => some (.int k)
  | .bool _ => some .bool
  | .str _ => some .str
  | _ => none
def cellEqC : Value → Value → Bool
  | .int _ a, .int _ b => a == b
  | .bool a, .bool b => a == b
  | .string a, .string b => a.toList == b.toList
  | _, _ => false
def cellEq : V → V → Bool
  | .int _ a, .int _ b => a == b
  | .bool a, .bool b => a == b
  | .str a, .str b => a == b
  | _, _ => false
def eqC : List Value → List Value → Bool
  | x :: xs, y :: ys => cellEqC x y && eqC xs ys
  | _, _ => true
def eqV : List V → List V → Bool
  | [x], [y] => cellEq x y
  | x :: xs, y :: ys => cellEq x y && eqV xs ys
  | _, _ => true
def layF (P : Program) (lay : TypeId → Option (List CK)) : List Field → Nat → Option (List CK)
  | [], _ => some []
  | f :: fs, o => if f.name ≠ "_" ∧ f.offset = o then
      match lay f.type with
      | some l => if sizeT P f.type = some l.length then (layF P lay fs (o + l.length)).map (l ++ ·) else none
      | none => none
    else none
def layT (P : Program) : Nat → TypeId → Option (List CK)
  | 0, _ => none
  | d + 1, t => match P.underlying t with
    | some (.int k) => some [.int k]
    | some .bool => some [.bool]
    | some .string => some [.str]
    | some (.struct fs) => if P.stoodInHeld t = true then none else layF P (layT P d) fs.toList 0
    | some (.array n e) => match layT P d e with
      | some l => if sizeT P e = some l.length then some (List.replicate n l).flatten else none
      | none => none
    | _ => none
section
variable {P : Program}
def toVal (P : Program) (t : TypeId) (xs : List Value) : Value := if aggT P t = some true then .agg xs.toArray else xs.headD undef
theorem eqC_append : ∀ {xs xs' ys ys' : List Value}, xs.length = ys.length → eqC (xs ++ xs') (ys ++ ys') = (eqC xs ys && eqC xs' ys')
  | [], _, [], _, _ => by simp [eqC]
  | x :: xs, _, y :: ys, _, h => by
    simp only [List.cons_append, eqC]
    rw [eqC_append (by simpa using h), Bool.and_assoc]
  | [], _, _ :: _, _, h => by simp at h
  | _ :: _, _, [], _, h => by simp at h
theorem run_part_toVal {t : TypeId} {xs : List Value} {o n : Nat} (hs : sizeT P t = some n) (ha : (aggT P t).isSome = true) (h1 : aggT P t = some false → n = 1) (hl : aggT P t = some false → o < xs.length) (w : World) :
    (part t xs.toArray o).run P w = .ok (toVal P t ((xs.drop o).take n)) w := by
  cases hq : aggT P t with
  | none => rw [hq] at ha; cases ha
  | some b =>
    cases b
    · have := h1 hq
      subst this
      have hlt : o < xs.length := hl hq
      rw [run_part_one hq (List.getElem?_eq_getElem hlt)]
      congr 1
      rw [toVal, hq, List.drop_eq_getElem_cons hlt]
      rfl
    · rw [run_part_agg hq hs]
      simp [toVal, hq]
theorem layT_agg {d : Nat} {t : TypeId} {ks : List CK} (h : layT P d t = some ks) : (aggT P t).isSome = true ∧ (aggT P t = some false → ks.length = 1) := by
  cases d with
  | zero => simp [layT] at h
  | succ d =>
    simp only [layT] at h
    unfold aggT
    split at h
    · rename_i hu; rw [hu]; simp at h; subst h; simp
    · rename_i hu; rw [hu]; simp at h; subst h; simp
    · rename_i hu; rw [hu]; simp at h; subst h; simp
    · rename_i hu; rw [hu]; simp
    · rename_i hu; rw [hu]; simp
    · cases h
def confC (ks : List CK) (xs : List Value) : Prop := xs.map kindC = ks.map some
theorem confC.length {ks : List CK} {xs : List Value} (h : confC ks xs) : xs.length = ks.length := by
  have := congrArg List.length h; simpa using this
theorem run_eqFields {d : Nat} (IH : ∀ t ks xs ys w, layT P d t = some ks → confC ks xs → confC ks ys → (Op.equalIn d t (toVal P t xs) (toVal P t ys)).run P w = .ok (eqC xs ys) w) (xs ys : List Value) :
    ∀ (fs : List Field) (o : Nat) (ks : List CK) (w : World), layF P (layT P d) fs o = some ks → confC ks (xs.drop o) → confC ks (ys.drop o) →
      (Op.eqFields d xs.toArray ys.toArray fs).run P w = .ok (eqC (xs.drop o) (ys.drop o)) w
  | [], o, ks, w, h, hx, hy => by
    simp only [layF, Option.some.injEq] at h
    subst h
    have h1 : xs.drop o = [] := List.eq_nil_of_length_eq_zero hx.length
    rw [h1]
    simp [Op.eqFields, eqC]
  | f :: fs, o, ks, w, h, hx, hy => by
    simp only [layF] at h
    split at h
    · rename_i hc
      obtain ⟨hn, rfl⟩ := hc
      cases hl : layT P d f.type with
      | none => rw [hl] at h; cases h
      | some l =>
        rw [hl] at h
        simp only at h
        split at h
        · rename_i hs
          cases hr : layF P (layT P d) fs (f.offset + l.length) with
          | none => rw [hr] at h; cases h
          | some ks' =>
            rw [hr] at h
            simp only [Option.map_some, Option.some.injEq] at h
            subst h
            obtain ⟨a1, a2⟩ := layT_agg hl
            have lx := hx.length
            have ly := hy.length
            simp only [List.length_drop, List.length_append] at lx ly
            have hsplit : ∀ zs : List Value, confC (l ++ ks') (zs.drop f.offset) → confC l ((zs.drop f.offset).take l.length) ∧ confC ks' (zs.drop (f.offset + l.length)) := by
              intro zs hz
              unfold confC at hz ⊢
              rw [List.map_append] at hz
              constructor
              · rw [List.map_take, hz]; simp
              · rw [← List.drop_drop, List.map_drop, hz]; simp
            obtain ⟨x1, x2⟩ := hsplit xs hx
            obtain ⟨y1, y2⟩ := hsplit ys hy
            have p1 := run_part_toVal (P := P) (xs := xs) (o := f.offset) hs a1 a2 (fun hq => by have := a2 hq; omega) w
            have p2 := run_part_toVal (P := P) (xs := ys) (o := f.offset) hs a1 a2 (fun hq => by have := a2 hq; omega) w
            have p3 := IH f.type l _ _ w hl x1 y1
            have p4 := run_eqFields IH xs ys fs (f.offset + l.length) ks' w hr x2 y2
            simp only [Op.eqFields, hn, ne_eq, not_false_eq_true, if_true, Sem.run_bind, p1, p2, p3, Result.andThen_ok]
            have hcat : ∀ zs : List Value, zs.drop f.offset = (zs.drop f.offset).take l.length ++ zs.drop (f.offset + l.length) := by
              intro zs
              rw [← List.drop_drop, List.take_append_drop]
            have he : eqC (xs.drop f.offset) (ys.drop f.offset) = (eqC ((xs.drop f.offset).take l.length) ((ys.drop f.offset).take l.length) && eqC (xs.drop (f.offset + l.length)) (ys.drop (f.offset + l.length))) := by
              rw [hcat xs, hcat ys, eqC_append (by simp; omega)]
              rw [← hcat xs, ← hcat ys]
            rw [he]
            cases eqC ((xs.drop f.offset).take l.length) ((ys.drop f.offset).take l.length)
            · simp
            · simp [p4]
        · cases h
    · cases h
theorem run_eqItems {d : Nat} {e : TypeId} {l : List CK} (IH : ∀ xs ys w, confC l xs → confC l ys → (Op.equalIn d e (toVal P e xs) (toVal P e ys)).run P w = .ok (eqC xs ys) w) (hl : layT P d e = some l) (hs : sizeT P e = some l.length) (xs ys : List Value) :
    ∀ (n j : Nat) (w : World), confC (List.replicate n l).flatten (xs.drop (j * l.length)) → confC (List.replicate n l).flatten (ys.drop (j * l.length)) →
      (Op.eqItems d e l.length xs.toArray ys.toArray (List.range' j n)).run P w = .ok (eqC (xs.drop (j * l.length)) (ys.drop (j * l.length))) w
  | 0, j, w, hx, hy => by
    have h1 : xs.drop (j * l.length) = [] := List.eq_nil_of_length_eq_zero (by simpa using hx.length)
    rw [h1]
    simp [Op.eqItems, eqC]
  | n + 1, j, w, hx, hy => by
    obtain ⟨a1, a2⟩ := layT_agg hl
    have hj : (j + 1) * l.length = j * l.length + l.length := by rw [Nat.add_mul, Nat.one_mul]
    have lx := hx.length
    have ly := hy.length
    rw [List.replicate_succ, List.flatten_cons] at hx hy lx ly
    simp only [List.length_drop, List.length_append] at lx ly
    have hsplit : ∀ zs : List Value, confC (l ++ (List.replicate n l).flatten) (zs.drop (j * l.length)) → confC l ((zs.drop (j * l.length)).take l.length) ∧ confC (List.replicate n l).flatten (zs.drop ((j + 1) * l.length)) := by
      intro zs hz
      unfold confC at hz ⊢
      rw [List.map_append] at hz
      constructor
      · rw [List.map_take, hz]; simp
      · rw [hj, ← List.drop_drop, List.map_drop, hz]; simp
    obtain ⟨x1, x2⟩ := hsplit xs hx
    obtain ⟨y1, y2⟩ := hsplit ys hy
    have p1 := run_part_toVal (P := P) (xs := xs) (o := j * l.length) hs a1 a2 (fun hq => by have := a2 hq; omega) w
    have p2 := run_part_toVal (P := P) (xs := ys) (o := j * l.length) hs a1 a2 (fun hq => by have := a2 hq; omega) w
    have p3 := IH _ _ w x1 y1
    have p4 := run_eqItems IH hl hs xs ys n (j + 1) w x2 y2
    simp only [List.range'_succ, Op.eqItems, Sem.run_bind, p1, p2, p3, Result.andThen_ok]
    have hcat : ∀ zs : List Value, zs.drop (j * l.length) = (zs.drop (j * l.length)).take l.length ++ zs.drop ((j + 1) * l.length) := by
      intro zs
      rw [hj, ← List.drop_drop, List.take_append_drop]
    have he : eqC (xs.drop (j * l.length)) (ys.drop (j * l.length)) = (eqC ((xs.drop (j * l.length)).take l.length) ((ys.drop (j * l.length)).take l.length) && eqC (xs.drop ((j + 1) * l.length)) (ys.drop ((j + 1) * l.length))) := by
      rw [hcat xs, hcat ys, eqC_append (by simp; omega)]
      rw [← hcat xs, ← hcat ys]
    rw [he]
    cases eqC ((xs.drop (j * l.length)).take l.length) ((ys.drop (j * l.length)).take l.length)
    · simp
    · simp [p4]
theorem run_equalIn_lay : ∀ (d : Nat) (t : TypeId) (ks : List CK) (xs ys : List Value) (w : World), layT P d t = some ks → confC ks xs → confC ks ys →
    (Op.equalIn d t (toVal P t xs) (toVal P t ys)).run P w = .ok (eqC xs ys) w
  | 0, _, _, _, _, _, h, _, _ => by simp [layT] at h
  | d + 1, t, ks, xs, ys, w, h, hx, hy => by
    have IH := run_equalIn_lay d
    simp only [layT] at h
    split at h
    · rename_i k hu
      simp only [Option.some.injEq] at h; subst h
      match xs, ys, hx, hy with
      | [x], [y], hx, hy =>
        simp only [confC, List.map_cons, List.map_nil, List.cons.injEq, and_true] at hx hy
        cases x <;> simp [kindC] at hx
        cases y <;> simp [kindC] at hy
        subst hx; subst hy
        simp [toVal, aggT, hu, run_equalIn_int _ _ _ _ _ _ _ hu, eqC, cellEqC]
      | [], _, hx, _ => simp [confC] at hx
      | _ :: _ :: _, _, hx, _ => simp [confC] at hx
      | [_], [], _, hy => simp [confC] at hy
      | [_], _ :: _ :: _, _, hy => simp [confC] at hy
    · rename_i hu
      simp only [Option.some.injEq] at h; subst h
      match xs, ys, hx, hy with
      | [x], [y], hx, hy =>
        simp only [confC, List.map_cons, List.map_nil, List.cons.injEq, and_true] at hx hy
        cases x <;> simp [kindC] at hx
        cases y <;> simp [kindC] at hy
        simp [toVal, aggT, hu, run_equalIn_bool' _ _ _ _ _ hu, eqC, cellEqC]
      | [], _, hx, _ => simp [confC] at hx
      | _ :: _ :: _, _, hx, _ => simp [confC] at hx
      | [_], [], _, hy => simp [confC] at hy
      | [_], _ :: _ :: _, _, hy => simp [confC] at hy
    · rename_i hu
      simp only [Option.some.injEq] at h; subst h
      match xs, ys, hx, hy with
      | [x], [y], hx, hy =>
        simp only [confC, List.map_cons, List.map_nil, List.cons.injEq, and_true] at hx hy
        cases x <;> simp [kindC] at hx
        cases y <;> simp [kindC] at hy
        simp [toVal, aggT, hu, run_equalIn_string _ _ _ _ _ hu, eqC, cellEqC]
      | [], _, hx, _ => simp [confC] at hx
      | _ :: _ :: _, _, hx, _ => simp [confC] at hx
      | [_], [], _, hy => simp [confC] at hy
      | [_], _ :: _ :: _, _, hy => simp [confC] at hy
    · rename_i fs hu
      split at h
      · cases h
      · rename_i hst
        have hfo : P.fieldsOf t = fs := by simp [Program.fieldsOf, hu]
        have h1 := run_equalIn_struct (P := P) w d t xs.toArray ys.toArray (by rw [hfo]; exact hu) (by simpa using hst)
        have h2 := run_eqFields IH xs ys fs.toList 0 ks w h (by simpa using hx) (by simpa using hy)
        simp only [List.drop_zero] at h2
        have e1 : toVal P t xs = .agg xs.toArray := by simp [toVal, aggT, hu]
        have e2 : toVal P t ys = .agg ys.toArray := by simp [toVal, aggT, hu]
        rw [e1, e2, h1, hfo, h2]
    · rename_i n e hu
      cases hl : layT P d e with
      | none => rw [hl] at h; cases h
      | some l =>
        rw [hl] at h
        simp only at h
        split at h
        · rename_i hs
          simp only [Option.some.injEq] at h; subst h
          obtain ⟨i, hi1, hi2⟩ := bytesT_run hs
          have hco : P.cellsOf e = l.length := by simp [Program.cellsOf, hi1, hi2]
          have h1 := run_equalIn_array (P := P) w d xs.toArray ys.toArray hu hi1
          have h2 := run_eqItems (fun xs ys w hx hy => IH e l xs ys w hl hx hy) hl hs xs ys n 0 w (by simpa using hx) (by simpa using hy)
          simp only [Nat.zero_mul, List.drop_zero] at h2
          have e1 : toVal P t xs = .agg xs.toArray := by simp [toVal, aggT, hu]
          have e2 : toVal P t ys = .agg ys.toArray := by simp [toVal, aggT, hu]
          rw [e1, e2, h1, hco, List.range_eq_range', h2]
        · cases h
    · cases h
theorem RL_kind {E : Env} : ∀ {cs : List V} {xs : List Value} {ks : List CK}, RL E cs xs → cs.map kindV = ks.map some → confC ks xs
  | [], xs, ks, h, hk => by
    simp only [RL] at h; subst h
    cases ks with | nil => rfl | cons _ _ => simp at hk
  | c :: cs, xs, ks, h, hk => by
    simp only [RL] at h
    obtain ⟨y, ys, rfl, h1, h⟩ := h
    cases ks with
    | nil => simp at hk
    | cons k ks =>
      simp only [List.map_cons, List.cons.injEq] at hk
      have := RL_kind h hk.2
      simp only [confC, List.map_cons, List.cons.injEq] at this ⊢
      refine ⟨?_, this⟩
      have hk1 := hk.1
      cases c <;> simp [kindV] at hk1 <;> simp only [R] at h1
      · subst h1; subst hk1; rfl
      · subst h1; subst hk1; rfl
      · obtain ⟨rfl, _⟩ := h1; subst hk1; rfl
theorem RL_eq {E : Env} : ∀ {cs ds : List V} {xs ys : List Value} {ks : List CK}, RL E cs xs → RL E ds ys → cs.map kindV = ks.map some → ds.map kindV = ks.map some → eqC xs ys = eqV cs ds
  | [], ds, xs, ys, ks, h, k, hk, hk' => by
    simp only [RL] at h; subst h
    cases ks with
    | cons _ _ => simp at hk
    | nil =>
      cases ds with
      | cons _ _ => simp at hk'
      | nil => simp [eqC, eqV]
  | c :: cs, ds, xs, ys, ks, h, k, hk, hk' => by
    cases ks with
    | nil => simp at hk
    | cons kd ks =>
      cases ds with
      | nil => simp at hk'
      | cons d ds =>
        simp only [RL] at h k
        obtain ⟨x, xs', rfl, h1, h⟩ := h
        obtain ⟨y, ys', rfl, k1, k⟩ := k
        simp only [List.map_cons, List.cons.injEq] at hk hk'
        have ih := RL_eq h k hk.2 hk'.2
        have hc : cellEqC x y = cellEq c d := by
          have q1 := hk.1
          have q2 := hk'.1
          cases c <;> simp [kindV] at q1 <;> subst q1 <;> cases d <;> simp [kindV] at q2 <;> simp only [R] at h1 k1
          · subst h1; subst k1; rfl
          · subst h1; subst k1; rfl
          · obtain ⟨rfl, _⟩ := h1; obtain ⟨rfl, _⟩ := k1; simp [cellEqC, cellEq]
        simp only [eqC, ih, hc]
        cases cs with
        | nil =>
          cases ds with
          | nil => simp [eqV]
          | cons d' ds' =>
            exfalso
            have q1 := hk.2; have q2 := hk'.2
            rw [← q1] at q2; simp at q2
        | cons c' cs' =>
          cases ds with
          | nil =>
            exfalso
            have q1 := hk.2; have q2 := hk'.2
            rw [← q1] at q2; simp at q2
          | cons d' ds' => simp [eqV]
variable {o : Oper} {ρ : Operand → V} {bx : Nat → Option Box}
theorem qv_bin_agg {op : BinOp} {xT yT : TypeId} {x y : Operand} {cs ds : List V} {ks : List CK} {v : V} (ho : o.op = .binOp op xT x y yT) (hx : ρ x = .agg cs) (hy : ρ y = .agg ds)
    (hm : P.eqGuardType P.depth xT = false) (ha : aggT P xT = some true) (hl : layT P 20 xT = some ks) (hc : cs.map kindV = ks.map some) (hd : ds.map kindV = ks.map some)
    (hv : (match op with | .eql => some (V.bool (eqV cs ds)) | .neq => some (V.bool (!eqV cs ds)) | _ => none) = some v) : QV P o ρ bx v none :=
  QV.pure fun ac w pr lam h _ => by
    have h1 := h x (by simp [ho, Op.operands])
    have h2 := h y (by simp [ho, Op.operands])
    rw [hx] at h1; rw [hy] at h2
    simp only [R] at h1 h2
    obtain ⟨xs, e1, r1, _⟩ := h1
    obtain ⟨ys, e2, r2, _⟩ := h2
    have hmono : ∀ (d k : Nat) (t : TypeId) (ks : List CK), layT P d t = some ks → layT P (d + k) t = some ks := by
      intro d
      induction d with
      | zero => intro k t ks h; simp [layT] at h
      | succ d ih =>
        intro k t ks h
        have hlf : ∀ (fs : List Field) (o : Nat) (ks : List CK), layF P (layT P d) fs o = some ks → layF P (layT P (d + k)) fs o = some ks := by
          intro fs
          induction fs with
          | nil => intro o ks h; simpa [layF] using h
          | cons f fs ihf =>
            intro o ks h
            simp only [layF] at h ⊢
            split at h
            · rename_i hc
              rw [if_pos hc]
              cases hq : layT P d f.type with
              | none => rw [hq] at h; cases h
              | some l =>
                rw [hq] at h
                rw [ih k _ _ hq]
                simp only at h ⊢
                split at h
                · rename_i hs
                  rw [if_pos hs]
                  cases hr : layF P (layT P d) fs (o + l.length) with
                  | none => rw [hr] at h; cases h
                  | some ks' => rw [hr] at h; rw [ihf _ _ hr]; exact h
                · cases h
            · cases h
        rw [show d + 1 + k = (d + k) + 1 from by omega]
        simp only [layT] at h ⊢
        split at h
        · exact h
        · exact h
        · exact h
        · split at h
          · cases h
          · rename_i hst; rw [if_neg hst]; exact hlf _ _ _ h
        · rename_i n e _
          cases hq : layT P d e with
          | none => rw [hq] at h; cases h
          | some l => rw [hq] at h; rw [ih k _ _ hq]; exact h
        · cases h
    have hl' : layT P 10000 xT = some ks := hmono 20 9980 xT ks hl
    have hrun := run_equalIn_lay 10000 xT ks xs ys w hl' (RL_kind r1 hc) (RL_kind r2 hd)
    have t1 : toVal P xT xs = .agg xs.toArray := by simp [toVal, ha]
    have t2 : toVal P xT ys = .agg ys.toArray := by simp [toVal, ha]
    rw [t1, t2, RL_eq r1 r2 hc hd] at hrun
    have hg : ∀ op' : BinOp, (eqGuard op' xT x y (.agg xs.toArray) (.agg ys.toArray)).run P w = .ok () w := fun op' => run_eqGuard_agg w op' xT x y _ _ hm
    cases op <;> simp only [Option.some.injEq, reduceCtorEq] at hv
    · subst hv
      refine ⟨.bool (eqV cs ds), ?_, by simp [R]⟩
      simp only [execOp, ho, e1, e2, Sem.run_bind, hg, Result.andThen_ok, run_eql_struct, hrun, Sem.run_pure]
    · subst hv
      refine ⟨.bool (!eqV cs ds), ?_, by simp [R]⟩
      simp only [execOp, ho, e1, e2, Sem.run_bind, hg, Result.andThen_ok, run_neq_struct, hrun, Sem.run_pure]
end
end Go.Eng
