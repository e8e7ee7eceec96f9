import Derived.Test.YtjcbpfhlgebgdaaE11F
set_option linter.unusedSimpArgs false
set_option linter.unusedVariables false
namespace Go.Eng
open Go.RowKit
def gdVC (ds : List (Option Nat)) (st : St) (g : Option (Nat × Bool)) (A B : Prop) : Prop :=
  match g with
  | none => A
  | some (j, want) => match ds[j]? with
    | some (some d) => (match st.env d with
      | .bool b => brVC (b == want) A B
      | .un => B
      | _ => False)
    | _ => B
def entVC (P : Program) (o2 o3 o4 o5 o6 : Oper) (st : St) (K : St → Prop) : Prop :=
  ∃ (t kt et xT yT : TypeId) (op : BinOp) (m x : Operand) (d2 d3 d4 d5 : Nat) (ag : Bool) (ks : List CK) (i : Nat) (B : Box) (ik : IntKind) (n c y : Int) (zv : V),
    ((o2.op = .lookup t m x false ∧ o2.dst = some d2 ∧ o2.guard = none) ∧ (o3.op = .binOp op xT (.tmp d2) (.const (.int ik c)) yT ∧ o3.dst = some d3 ∧ o3.guard = none) ∧ (o4.op = .mapEntry t m x ∧ o4.dst = some d4 ∧ o4.guard = none) ∧
      (o5.op = .extract (.tmp d4) 1 ∧ o5.dst = some d5 ∧ o5.guard = none) ∧ (o6.op = .entryStore t m (.tmp d5) (.tmp d3) ∧ o6.dst = none ∧ o6.guard = none)) ∧
    (d2 ≠ d3 ∧ d2 ≠ d4 ∧ d2 ≠ d5 ∧ d3 ≠ d4 ∧ d3 ≠ d5 ∧ d4 ≠ d5) ∧ (m ≠ .tmp d2 ∧ m ≠ .tmp d3 ∧ m ≠ .tmp d4 ∧ m ≠ .tmp d5) ∧ (x ≠ .tmp d2 ∧ x ≠ .tmp d3 ∧ x ≠ .tmp d4 ∧ x ≠ .tmp d5) ∧
    (binI op ik n c = some (.int ik y) ∧ st.eval m = .mref i ∧ st.box i = some B ∧ mapTy ≤ B.ty ∧ mapT P t = some (kt, et) ∧ zeroT P et = some zv ∧ (mapGet B.cells (st.eval x)).getD zv = .int ik n ∧ keyT P kt = some (ag, ks) ∧ KeyT P kt ∧ keyOK ag ks (st.eval x) ∧ keysOK ag ks B.cells) ∧
    K ((((((st.setBox i ⟨mapPut B.cells (st.eval x) (.int ik y), B.ty⟩).put (some d2) (.int ik n) none).put (some d3) (.int ik y) none).put (some d4) .any none).put (some d5) .any none))
def opsVC (P : Program) (dr : Bool) (ds : List (Option Nat)) : List Oper → St → (St → Prop) → Prop
  | [], st, K => K st
  | o :: os, st, K => gdVC ds st o.guard (opVC P dr o st fun st' => opsVC P dr ds os st' K) (opsVC P dr ds os (st.put o.dst .un none) K) ∨ (dr = true ∧ ∃ o3 o4 o5 o6, os = [o3, o4, o5, o6] ∧ entVC P o o3 o4 o5 o6 st K)
def gdB (ds : List (Option Nat)) (st : St) (g : Option (Nat × Bool)) : Option Bool :=
  match g with
  | none => some true
  | some (j, want) => match ds[j]? with
    | some (some d) => (match st.env d with
      | .bool b => some (b == want)
      | .un => some false
      | _ => none)
    | _ => some false
theorem brVC_iff (b : Bool) (A B : Prop) : brVC b A B ↔ (b = true ∧ A) ∨ (b = false ∧ B) := by
  cases b <;> simp [brVC]
theorem gdVC_iff {ds : List (Option Nat)} {st : St} {g : Option (Nat × Bool)} {A B : Prop} : gdVC ds st g A B ↔ ((gdB ds st g = some true ∧ A) ∨ (gdB ds st g = some false ∧ B)) := by
  cases g with
  | none => simp [gdVC, gdB]
  | some jw =>
    obtain ⟨j, want⟩ := jw
    simp only [gdVC, gdB]
    cases hd : ds[j]? with
    | none => simp
    | some od =>
      cases od with
      | none => simp
      | some d =>
        simp only
        cases he : st.env d <;> simp [brVC_iff]
section
variable {P : Program} {n' : Nat} {dr : Bool}
theorem wanted_of {F : Fr} {st : St} {a : Act} {w : World} {pr : Nat → Nat → Prop} {lam : Nat → Option Nat} {ops : Array Oper} {o : Oper} {b : Bool} (h : SRel P F st a w pr lam) (hg : gdB (ops.toList.map (·.dst)) st o.guard = some b) :
    Region.wanted o (yielded ops a.tmps) = b := by
  unfold gdB at hg
  unfold Region.wanted
  split at hg
  · rename_i hq; rw [hq]; simpa using hg
  · rename_i j want hq
    rw [hq]
    simp only
    split at hg
    · rename_i d hd
      have hd' : (ops[j]?).bind (·.dst) = some d := by
        rw [List.getElem?_map, Array.getElem?_toList] at hd
        cases ho : ops[j]? with
        | none => rw [ho] at hd; simp at hd
        | some o' => rw [ho] at hd; simpa using hd
      have hr := h.env d
      have hget : ∀ v, a.tmps.getD d undef = v → v ≠ undef → a.tmps[d]? = some v := by
        intro v hv hne
        by_cases hlt : d < a.tmps.size
        · rw [← hv]; simp [hlt]
        · exfalso; apply hne; rw [← hv]; simp [Array.getElem?_eq_none (by omega : a.tmps.size ≤ d)]
      split at hg
      · rename_i b' hb'
        rw [hb'] at hr
        simp only [R] at hr
        have := hget _ hr (by simp [undef])
        simp only [yielded, hd', Option.bind_some, this]
        simpa using hg
      · rename_i hb'
        rw [hb'] at hr
        simp only [R] at hr
        have hy : yielded ops a.tmps j = none := by
          simp only [yielded, hd', Option.bind_some]
          by_cases hlt : d < a.tmps.size
          · have : a.tmps[d]? = some undef := by rw [← hr]; simp [hlt]
            rw [this]; rfl
          · rw [Array.getElem?_eq_none (by omega)]
        rw [hy]
        simpa using hg
      · cases hg
    · rename_i hd
      have hy : yielded ops a.tmps j = none := by
        unfold yielded
        rw [List.getElem?_map, Array.getElem?_toList] at hd
        cases ho : ops[j]? with
        | none => rfl
        | some o' =>
          rw [ho] at hd
          simp only [Option.bind_some]
          cases hq' : o'.dst with
          | none => rfl
          | some d => exact absurd (by rw [Option.map_some, hq']) (hd d)
      rw [hy]
      simpa using hg
theorem SRel.putUn {F : Fr} {st : St} {a : Act} {w : World} {pr : Nat → Nat → Prop} {lam : Nat → Option Nat} (h : SRel P F st a w pr lam) {dst : Option Nat} (hd : ∀ d, dst = some d → d < F.nt) :
    SRel P F (st.put dst .un none) (a.put dst undef) w pr lam := h.put hd (by simp [R]) trivial
theorem opsVC_sound (hdr : dr = false) {ops : Array Oper} {K : St → Prop} : ∀ (l : List Oper) (i : Nat) (st : St), (∀ j, l[j]? = ops[i + j]?) → l.all (dstOK n') = true → opsVC P dr (ops.toList.map (·.dst)) l st K →
    ∀ (F : Fr) (a : Act) (w : World) (pr : Nat → Nat → Prop) (lam : Nat → Option Nat), F.nt = n' → SRel P F st a w pr lam → ∀ Q : Exit → Act → World → Prop,
      (∀ st' a' w' pr' lam', K st' → SRel P F st' a' w' pr' lam' → Q .normal a' w') → wpOps P ops Q (List.range' i l.length) a w
  | [], i, st, _, _, h, F, a, w, pr, lam, _, hs, Q, hn => by
    simp only [List.length_nil, List.range'_zero, wpOps]
    exact hn st a w pr lam h hs
  | o :: os, i, st, hl, hall, h, F, a, w, pr, lam, hF, hs, Q, hn => by
    have h0 : ops[i]? = some o := by simpa using (hl 0).symm
    simp only [List.all_cons, Bool.and_eq_true] at hall
    have hl' : ∀ j, os[j]? = ops[i + 1 + j]? := fun j => by have := hl (j + 1); simpa [Nat.add_assoc, Nat.add_comm 1 j] using this
    simp only [List.length_cons, List.range'_succ, wpOps, h0]
    simp only [opsVC] at h
    rcases h with h | ⟨h, _⟩
    rotate_left
    · rw [hdr] at h; cases h
    rcases gdVC_iff.1 h with ⟨hg, h⟩ | ⟨hg, h⟩
    · rw [wanted_of hs hg]
      simp only [if_true]
      left
      exact opVC_sound hall.1 h F a w pr lam hF hs _ _ fun st' a' w' pr' lam' hk hs' => opsVC_sound hdr os (i + 1) st' hl' hall.2 hk F a' w' pr' lam' hF hs' Q hn
    · rw [wanted_of hs hg]
      simp only [Bool.false_eq_true, if_false]
      exact opsVC_sound hdr os (i + 1) _ hl' hall.2 h F _ w pr lam hF (hs.putUn (by rw [hF]; exact dstOK_spec hall.1)) Q hn
theorem QVT.congr {o : Oper} {ρ ρ' : Operand → V} {τ τ' : Operand → Option (Nat × TypeId)} {bx : Nat → Option Box} {v : V} {tk : Option (Nat × TypeId)} (h : QVT P o ρ τ bx v tk)
    (he : ∀ x ∈ o.op.operands, ρ' x = ρ x ∧ τ' x = τ x) : QVT P o ρ' τ' bx v tk := by
  rcases h with ⟨fr, hq, ht⟩ | ⟨x, hx, rfl, rfl⟩
  · refine .inl ⟨fr, fun a w pr lam h1 h2 => hq a w pr lam h1 fun x hx => ?_, ht⟩
    rw [← (he x hx).1]; exact h2 x hx
  · have hm : x ∈ o.op.operands := by rcases hx with hx | hx <;> simp [hx, Op.operands]
    exact .inr ⟨x, hx, ((he x hm).1).symm, ((he x hm).2).symm⟩
theorem put_comm (st : St) {x y : Option Nat} (v u : V) (tv tu : Option (Nat × TypeId)) (h : ∀ d, x = some d → y ≠ some d) : (st.put x v tv).put y u tu = (st.put y u tu).put x v tv := by
  cases x with
  | none => rfl
  | some d =>
    cases y with
    | none => rfl
    | some e =>
      have hne : d ≠ e := fun hde => h d rfl (by rw [hde])
      simp only [St.put]
      congr 1
      funext s
      simp only [upd]
      by_cases h1 : s = d
      · have h2 : ¬ s = e := fun h2 => hne (h1.symm.trans h2)
        rw [if_neg h2, if_pos h1, if_pos h1]
      · rw [if_neg h1]
        by_cases h2 : s = e
        · rw [if_pos h2, if_neg h1]
        · rw [if_neg h2, if_neg h1]
theorem put_eval {st : St} {dst : Option Nat} {v : V} {tk : Option (Nat × TypeId)} {ops : Array Oper} {o : Oper} (h : ∀ d, dst = some d → d ∉ o.looksAt ops) :
    (∀ x ∈ o.op.operands, (st.put dst v tk).eval x = st.eval x ∧ (st.put dst v tk).tokOf x = st.tokOf x) ∧ gdB (ops.toList.map (·.dst)) (st.put dst v tk) o.guard = gdB (ops.toList.map (·.dst)) st o.guard := by
  cases dst with
  | none => exact ⟨fun _ _ => ⟨rfl, rfl⟩, rfl⟩
  | some d =>
    have hd := h d rfl
    simp only [Oper.looksAt, List.mem_append, not_or] at hd
    constructor
    · intro x hx
      cases x with
      | tmp t =>
        have hne : t ≠ d := by
          rintro rfl
          apply hd.1
          rw [List.mem_filterMap]
          exact ⟨.tmp t, by simpa using hx, rfl⟩
        simp only [St.eval, St.tokOf, St.env_put, St.tok_put, upd, if_neg hne, and_self]
      | const v => exact ⟨rfl, rfl⟩
      | global g => exact ⟨rfl, rfl⟩
      | func f => exact ⟨rfl, rfl⟩
    · unfold gdB
      cases hg : o.guard with
      | none => rfl
      | some gw =>
        obtain ⟨j, want⟩ := gw
        simp only
        cases hds : (ops.toList.map (·.dst))[j]? with
        | none => rfl
        | some od =>
          cases od with
          | none => rfl
          | some d' =>
            simp only
            have hne : d' ≠ d := by
              rintro rfl
              apply hd.2
              rw [hg]
              rw [List.getElem?_map, Array.getElem?_toList] at hds
              cases ho : ops[j]? with
              | none => rw [ho] at hds; simp at hds
              | some o' =>
                rw [ho] at hds
                simp at hds
                simp only [ho, Option.bind_some, hds]
                simp
            simp only [St.env_put, upd, if_neg hne]
theorem OpOK.mono {o : Oper} {st : St} {K K' : St → Prop} (h : OpOK P n' o st K) (hk : ∀ st, K st → K' st) : OpOK P n' o st K' :=
  fun F a w pr lam hF hs next Q hn => h F a w pr lam hF hs next Q fun st' a' w' pr' lam' k r => hn st' a' w' pr' lam' (hk st' k) r
def hardOp (o : Oper) : Bool := match o.op with
  | .box .. | .alloc _ | .store .. | .mapUpdate .. | .makeMap .. => true
  | _ => false
def appOp (o : Oper) : Bool := match o.op with
  | .call { callee := .builtin .append, .. } => true
  | _ => false
def ancB (ops : Array Oper) : Nat → Nat → Nat → Bool
  | 0, _, _ => false
  | fuel + 1, j, i => match ops[j]? with
    | some o => o.after.toList.any fun e => Region.binds .any e && (e.on == i || ancB ops fuel e.on i)
    | none => false
def pinned (ops : Array Oper) (k : Nat) : Bool :=
  (List.range ops.size).all fun i => i == k || (if i < k then ancB ops ops.size k i else ancB ops ops.size i k)
def Cl (ops : Array Oper) (listed : Array Bool) : Prop :=
  ∀ (j : Nat) (oj : Oper), ops[j]? = some oj → listed.getD j false = true → ∀ e ∈ oj.after, Region.binds .any e = true → listed.getD e.on false = true
theorem anc_listed {ops : Array Oper} {listed : Array Bool} (hc : Cl ops listed) {i : Nat} : ∀ (fuel j : Nat), ancB ops fuel j i = true →
    (∀ oj, ops[j]? = some oj → ∀ e ∈ oj.after, Region.binds .any e = true → listed.getD e.on false = true) → listed.getD i false = true
  | 0, _, h, _ => by simp [ancB] at h
  | fuel + 1, j, h, hj => by
    simp only [ancB] at h
    split at h
    · rename_i o ho
      rw [List.any_eq_true] at h
      obtain ⟨e, he, h⟩ := h
      simp only [Bool.and_eq_true, Bool.or_eq_true, beq_iff_eq] at h
      have hl := hj o ho e (by simpa using he) h.1
      rcases h.2 with h2 | h2
      · rw [← h2]; exact hl
      · exact anc_listed hc fuel e.on h2 fun oj hoj e' he' hb' => hc e.on oj hoj hl e' he' hb'
    · cases h
theorem unlisted_of {listed : Array Bool} {i : Nat} (h : listed.getD i true = false) : listed.getD i false = false := by
  rcases Nat.lt_or_ge i listed.size with h' | h'
  · simpa [h'] using h
  · simp [Array.getElem?_eq_none h'] at h
theorem pinned_alone {ops : Array Oper} {listed : Array Bool} (hc : Cl ops listed) {i j : Nat} (hp : pinned ops j = true) (hi : i ∈ Region.ready .any ops listed) (hj : j ∈ Region.ready .any ops listed) : i = j := by
  apply Classical.byContradiction
  intro hne
  obtain ⟨ui, oi, hoi, ai⟩ := mem_ready.1 hi
  obtain ⟨uj, oj, hoj, aj⟩ := mem_ready.1 hj
  unfold pinned at hp
  rw [List.all_eq_true] at hp
  have hlt : i < ops.size := (Array.getElem?_eq_some_iff.1 hoi).1
  have h := hp i (by simpa using hlt)
  simp only [Bool.or_eq_true, beq_iff_eq, hne, false_or] at h
  split at h
  · have := anc_listed hc _ j h (fun o ho e he hb => by rw [hoj] at ho; cases ho; exact aj e he hb)
    rw [unlisted_of ui] at this; cases this
  · have := anc_listed hc _ i h (fun o ho e he hb => by rw [hoi] at ho; cases ho; exact ai e he hb)
    rw [unlisted_of uj] at this; cases this
theorem Cl.step {ops : Array Oper} {listed : Array Bool} (hc : Cl ops listed) {i : Nat} (hi : i ∈ Region.ready .any ops listed) : Cl ops (listed.setIfInBounds i true) := by
  intro j oj hoj hl e he hb
  obtain ⟨ui, oi, hoi, ai⟩ := mem_ready.1 hi
  by_cases hji : j = i
  · subst hji
    rw [hoi] at hoj; cases hoj
    exact getD_set_true (ai e he hb)
  · rw [getD_set_ne false (Ne.symm hji)] at hl
    exact getD_set_true (hc j oj hoj hl e he hb)
def chained (ops : Array Oper) (i j : Nat) : Prop := ancB ops ops.size i j = true ∨ ancB ops ops.size j i = true
theorem chained_alone {ops : Array Oper} {listed : Array Bool} (hc : Cl ops listed) {i j : Nat} (hp : chained ops i j) (hi : i ∈ Region.ready .any ops listed) (hj : j ∈ Region.ready .any ops listed) : False := by
  obtain ⟨ui, oi, hoi, ai⟩ := mem_ready.1 hi
  obtain ⟨uj, oj, hoj, aj⟩ := mem_ready.1 hj
  rcases hp with h | h
  · have := anc_listed hc _ i h (fun o ho e he hb => by rw [hoi] at ho; cases ho; exact ai e he hb)
    rw [unlisted_of uj] at this; cases this
  · have := anc_listed hc _ j h (fun o ho e he hb => by rw [hoj] at ho; cases ho; exact aj e he hb)
    rw [unlisted_of ui] at this; cases this
inductive Ef where
  | put (v : V)
  | copy (x : Operand)
  | cl (v : V) (t : Nat) (e : TypeId)
  | new (i : Nat) (B : Box)
  | sto (k : Nat) (B : Box)
def Ef.val (st : St) : Ef → V
  | .put v => v
  | .copy x => st.eval x
  | .cl v _ _ => v
  | .new i _ => .loc i 0
  | .sto _ _ => .any
def Ef.tk (st : St) : Ef → Option (Nat × TypeId)
  | .put _ => none
  | .copy x => st.tokOf x
  | .cl _ t e => some (t, e)
  | .new _ _ => none
  | .sto _ _ => none
def Ef.c : Ef → Option Nat
  | .cl _ t _ => some t
  | _ => none
def clT (c : Option Nat) (tk : Option (Nat × TypeId)) : Option (Nat × TypeId) := match c with
  | none => tk
  | some t => (clr t (.any, tk)).2
def Ef.nb : Ef → Nat
  | .new _ _ => 1
  | _ => 0
def Ef.bx (G : Ef) (bx : Nat → Option Box) : Nat → Option Box := match G with
  | .new i B => upd bx i (some B)
  | .sto k B => upd bx k (some B)
  | _ => bx
def Ef.app (G : Ef) (dst : Option Nat) (st : St) : St :=
  { nb := st.nb + G.nb, sl := fun s => if dst = some s then (G.val st, G.tk st) else ((st.sl s).1, clT G.c (st.sl s).2), box := G.bx st.box }
theorem clT_none (c : Option Nat) : clT c none = none := by cases c <;> rfl
theorem clT_comm (c d : Option Nat) (tk : Option (Nat × TypeId)) : clT c (clT d tk) = clT d (clT c tk) := by
  cases c with
  | none => rfl
  | some c =>
    cases d with
    | none => rfl
    | some d =>
      cases tk with
      | none => rfl
      | some te =>
        obtain ⟨t, e⟩ := te
        simp only [clT, clr]
        by_cases h1 : t = c ∨ t = c + 3000000 <;> by_cases h2 : t = d ∨ t = d + 3000000 <;> simp [h1, h2]
theorem clT_some {c : Option Nat} {tk : Option (Nat × TypeId)} {t : Nat} {e : TypeId} (h : clT c tk = some (t, e)) : tk = some (t, e) := by
  cases c with
  | none => exact h
  | some c =>
    cases tk with
    | none => cases h
    | some te =>
      obtain ⟨t', e'⟩ := te
      simp only [clT, clr] at h
      split at h
      · cases h
      · exact h
theorem clT_keep {c : Option Nat} {t : Nat} {e : TypeId} (ht : tcl t < 2) (h : ∀ t', c = some t' → t ≠ t') : clT c (some (t, e)) = some (t, e) := by
  cases c with
  | none => rfl
  | some c =>
    simp only [clT, clr]
    rw [if_neg]
    rintro (q | q)
    · exact h c rfl q
    · subst q
      unfold tcl at ht
      omega
theorem Ef.app_put (v : V) (dst : Option Nat) (st : St) : (Ef.put v).app dst st = st.put dst v none := by
  cases dst with
  | none => simp [Ef.app, Ef.c, clT, St.put, Ef.nb, Ef.bx]
  | some d =>
    simp only [Ef.app, Ef.c, clT, St.put, Ef.val, Ef.tk, Ef.nb, Ef.bx, Nat.add_zero, Option.some.injEq]
    congr 1
    funext s
    simp only [upd]
    by_cases h : s = d
    · subst h; simp
    · rw [if_neg (fun q => h q.symm), if_neg h]
theorem Ef.app_new (i : Nat) (B : Box) (dst : Option Nat) (st : St) : (Ef.new i B).app dst st = St.put { st with nb := st.nb + 1, box := upd st.box i (some B) } dst (.loc i 0) none := by
  cases dst with
  | none => simp [Ef.app, Ef.c, clT, St.put, Ef.nb, Ef.bx]
  | some d =>
    simp only [Ef.app, Ef.c, clT, St.put, Ef.val, Ef.tk, Ef.nb, Ef.bx, Option.some.injEq]
    congr 1
    funext s
    simp only [upd]
    by_cases h : s = d
    · subst h; simp
    · rw [if_neg (fun q => h q.symm), if_neg h]
theorem Ef.app_sto (k : Nat) (B : Box) (st : St) : (Ef.sto k B).app none st = st.setBox k B := by
  simp [Ef.app, Ef.c, clT, Ef.nb, Ef.bx, St.setBox]
theorem Ef.app_copy (x : Operand) (dst : Option Nat) (st : St) : (Ef.copy x).app dst st = st.put dst (st.eval x) (st.tokOf x) := by
  cases dst with
  | none => simp [Ef.app, Ef.c, clT, St.put, Ef.nb, Ef.bx]
  | some d =>
    simp only [Ef.app, Ef.c, clT, St.put, Ef.val, Ef.tk, Ef.nb, Ef.bx, Nat.add_zero, Option.some.injEq]
    congr 1
    funext s
    simp only [upd]
    by_cases h : s = d
    · subst h; simp
    · rw [if_neg (fun q => h q.symm), if_neg h]
theorem Ef.app_cl (v : V) (t : Nat) (e : TypeId) (dst : Option Nat) (st : St) : (Ef.cl v t e).app dst st = (st.clear t).put dst v (some (t, e)) := by
  cases dst with
  | none => simp [Ef.app, Ef.c, clT, St.put, St.clear, clr, Ef.nb, Ef.bx]
  | some d =>
    simp only [Ef.app, Ef.c, clT, St.put, Ef.val, Ef.tk, Ef.nb, Ef.bx, Nat.add_zero, Option.some.injEq, St.clear]
    congr 1
    funext s
    simp only [upd]
    by_cases h : s = d
    · subst h; simp
    · rw [if_neg (fun q => h q.symm), if_neg h]; rfl
theorem Ef.comm {Gi Gj : Ef} {di dj : Option Nat} {st : St} (hd : ∀ d, di = some d → dj ≠ some d) (hvi : Gi.val (Gj.app dj st) = Gi.val st) (hvj : Gj.val (Gi.app di st) = Gj.val st)
    (hti : Gi.tk (Gj.app dj st) = clT Gj.c (Gi.tk st)) (htj : Gj.tk (Gi.app di st) = clT Gi.c (Gj.tk st)) (hnn : ∀ i B j C, Gi = .new i B → Gj = .new j C → i ≠ j) (hns : ∀ i B k C, Gi = .new i B → Gj ≠ .sto k C) (hni : ∀ k C, Gi ≠ .sto k C) : Gj.app dj (Gi.app di st) = Gi.app di (Gj.app dj st) := by
  have hbx : Gj.bx (Gi.bx st.box) = Gi.bx (Gj.bx st.box) := by
    cases Gi with
    | sto k C => exact absurd rfl (hni k C)
    | new i B =>
      cases Gj with
      | sto k C => exact absurd rfl (hns i B k C rfl)
      | new j C =>
        have hne := hnn i B j C rfl rfl
        funext k
        simp only [Ef.bx, upd]
        by_cases h1 : k = i
        · subst h1; simp [hne]
        · by_cases h2 : k = j
          · subst h2; simp [h1]
          · simp [h1, h2]
      | _ => rfl
    | _ => rfl
  unfold Ef.app at *
  simp only at *
  have hnb : st.nb + Gi.nb + Gj.nb = st.nb + Gj.nb + Gi.nb := by omega
  rw [hbx, hnb]
  congr 1
  funext s
  by_cases h1 : di = some s
  · have h2 : ¬ dj = some s := hd s h1
    simp only [h1, h2, if_true, if_false]
    rw [hvi, hti]
  · by_cases h2 : dj = some s
    · simp only [h1, h2, if_true, if_false]
      rw [hvj, htj]
    · simp only [h1, h2, if_false]
      rw [clT_comm]
def appendR (P : Program) (rv : V) (tok : Option (Nat × TypeId)) (x : V) (t u : TypeId) (v : V) (tk : Nat) (e : TypeId) : Prop :=
  match rv, tok, sliceT P t with
  | .list rows, some (tk', e0), some e' => (match sizeT P e0, bytesT P e0, zeroT P e0 with
    | some sz, some by', some zv => (tk' = tk ∧ e0 = e) ∧ (e0 = e' ∧ tcl tk' < 2 ∧ srcT P u = true ∧ zv.csize = some sz ∧ by' ≠ 0) ∧ rowsOK sz rows ∧ (match x with
      | .list rows2 => rowsOK sz rows2 ∧ (rows.length + rows2.length) * by' ≤ 140737488355328 ∧ v = .list (rows ++ rows2)
      | .str l => sz = 1 ∧ (rows.length + l.length) * by' ≤ 140737488355328 ∧ v = .list (rows ++ bytesV l)
      | _ => False)
    | _, _, _ => False)
  | _, _, _ => False
theorem appendVC_R {st : St} {ss : Nat} {x : V} {t u : TypeId} {dst : Option Nat} {K : St → Prop} (h : appendVC P st ss x t u dst K) :
    ∃ v tk e, appendR P (st.env ss) (st.tok ss) x t u v tk e ∧ K ((st.clear tk).put dst v (some (tk, e))) := by
  unfold appendVC at h
  split at h
  · rename_i rows tk e e' h1 h2 h3
    split at h
    · rename_i sz by' zv h4 h5 h6
      obtain ⟨q1, q2, q3⟩ := h
      split at q3
      · obtain ⟨q3, q4, q5⟩ := q3
        refine ⟨_, tk, e, ?_, q5⟩
        unfold appendR
        rw [h1, h2, h3]
        simp only [h4, h5, h6]
        exact ⟨⟨trivial, trivial⟩, q1, q2, q3, q4, trivial⟩
      · obtain ⟨q3, q4, q5⟩ := q3
        refine ⟨_, tk, e, ?_, q5⟩
        unfold appendR
        rw [h1, h2, h3]
        simp only [h4, h5, h6]
        exact ⟨⟨trivial, trivial⟩, q1, q2, q3, q4, trivial⟩
      · exact q3.elim
    · exact h.elim
  · exact h.elim
theorem appendR_VC {st : St} {ss : Nat} {x : V} {t u : TypeId} {dst : Option Nat} {K : St → Prop} {v : V} {tk : Nat} {e : TypeId} (h : appendR P (st.env ss) (st.tok ss) x t u v tk e) (hk : K ((st.clear tk).put dst v (some (tk, e)))) :
    appendVC P st ss x t u dst K := by
  unfold appendR at h
  split at h
  · rename_i rows tk' e0 e' h1 h2 h3
    split at h
    · rename_i sz by' zv h4 h5 h6
      obtain ⟨⟨rfl, rfl⟩, q1, q2, q3⟩ := h
      unfold appendVC
      rw [h1, h2, h3]
      simp only [h4, h5, h6]
      refine ⟨q1, q2, ?_⟩
      split at q3
      · obtain ⟨q3, q4, rfl⟩ := q3
        exact ⟨q3, q4, hk⟩
      · obtain ⟨q3, q4, rfl⟩ := q3
        exact ⟨q3, q4, hk⟩
      · exact q3.elim
    · exact h.elim
  · exact h.elim
theorem appendR_tok {rv : V} {tok : Option (Nat × TypeId)} {x : V} {t u : TypeId} {v : V} {tk : Nat} {e : TypeId} (h : appendR P rv tok x t u v tk e) : tok = some (tk, e) ∧ tcl tk < 2 := by
  unfold appendR at h
  split at h
  · split at h
    · obtain ⟨⟨rfl, rfl⟩, q1, _⟩ := h
      exact ⟨rfl, q1.2.1⟩
    · exact h.elim
  · exact h.elim
def newB (o : Oper) : Bool := match o.op with
  | .box .. | .alloc _ => true
  | _ => false
def newC (P : Program) (o : Oper) (st : St) (B : Box) : Prop := ∃ v n, v.csize = some n ∧ B = ⟨v.cellsL, B.ty⟩ ∧ B.ty < mapTy ∧ ((∃ x, o.op = .box B.ty x ∧ st.eval x = v) ∨ (o.op = .alloc B.ty ∧ zeroT P B.ty = some v))
def stoO (o : Oper) : Bool := match o.op with
  | .store .. => true
  | _ => false
theorem sto_hard {o : Oper} (h : stoO o = true) : hardOp o = true := by
  unfold stoO at h
  unfold hardOp
  split at h
  · rename_i ho; rw [ho]
  · cases h
theorem new_hard {o : Oper} (h : newB o = true) : hardOp o = true := by
  unfold newB at h
  unfold hardOp
  split at h
  · rename_i ho; rw [ho]
  · rename_i ho; rw [ho]
  · cases h
theorem new_nsto {o : Oper} (h : newB o = true) : stoO o = false := by
  unfold newB at h
  unfold stoO
  split at h
  · rename_i ho; rw [ho]
  · rename_i ho; rw [ho]
  · cases h
theorem soft_new {o : Oper} (h : hardOp o = false) : newB o = false := by
  cases q : newB o with
  | false => rfl
  | true => rw [new_hard q] at h; cases h
theorem soft_sto {o : Oper} (h : hardOp o = false) : stoO o = false := by
  cases q : stoO o with
  | false => rfl
  | true => rw [sto_hard q] at h; cases h
def stoC (P : Program) (o : Oper) (st : St) (k : Nat) (C : Box) : Prop := ∃ t d y n B off, o.op = .store t (.tmp d) y ∧ o.dst = none ∧ st.env d = .loc k off ∧ st.box k = some B ∧ B.ty < 1000000000 ∧ sizeT P t = some n ∧ (st.eval y).csize = some n ∧ off + n ≤ B.cells.length ∧
  C = ⟨B.cells.take off ++ (st.eval y).cellsL ++ B.cells.drop (off + n), B.ty⟩
def Ef.can (P : Program) (o : Oper) (β : Nat → Option Box) (st : St) : Ef → Prop
  | .put v => (newB o = false ∧ stoO o = false) ∧ ∃ fr, QV P o st.eval β v fr
  | .new i B => newB o = true ∧ st.box i = none ∧ newC P o st B
  | .sto k C => stoC P o st k C
  | .copy x => o.op = .move x ∨ o.op = .assign x
  | .cl v t e => (newOp o = true ∧ o.dst = some (t % 1000000) ∧ tcl t < 2 ∧ QV P o st.eval β v (some (tcl t, e))) ∨
      ∃ ss x ta tb args tys, o.op = .call { callee := .builtin .append, args := args, argTypes := tys } ∧ args.toList = [.tmp ss, x] ∧ tys.toList = [ta, tb] ∧ appendR P (st.env ss) (st.tok ss) (st.eval x) ta tb v t e
def YldE (P : Program) (ops : Array Oper) (o : Oper) (G : Ef) (β : Nat → Option Box) (st : St) : Prop :=
  (gdB (ops.toList.map (·.dst)) st o.guard = some true ∧ G.can P o β st) ∨ (gdB (ops.toList.map (·.dst)) st o.guard = some false ∧ G = .put .un)
def qStep (P : Program) (n' : Nat) (ops : Array Oper) (i : Nat) (K : St → Prop) (st : St) : Prop :=
  match ops[i]? with
  | none => K st
  | some o => (∃ G, YldE P ops o G st.box st ∧ K (G.app o.dst st)) ∨ ((hardOp o = true ∧ pinned ops i = true) ∧ gdB (ops.toList.map (·.dst)) st o.guard = some true ∧ OpOK P n' o st K)
theorem qStep_mono {ops : Array Oper} {i : Nat} {K K' : St → Prop} {st : St} (hk : ∀ st, K st → K' st) (h : qStep P n' ops i K st) : qStep P n' ops i K' st := by
  unfold qStep at *
  split
  · rename_i ho; rw [ho] at h; exact hk _ h
  · rename_i o ho
    rw [ho] at h
    rcases h with ⟨G, h1, h2⟩ | ⟨h1, h2, h3⟩
    · exact .inl ⟨G, h1, hk _ h2⟩
    · exact .inr ⟨h1, h2, h3.mono hk⟩
theorem Ef.can_ok {o : Oper} {st : St} {G : Ef} {K : St → Prop} (hd : dstOK n' o = true) (h : G.can P o st.box st) (hk : K (G.app o.dst st)) : OpOK P n' o st K := by
  have hd' := dstOK_spec hd
  cases G with
  | sto k C =>
    obtain ⟨t, d, y, n, B, off, h1, h2, h3, h4, h5, h6, h7, h8, rfl⟩ := h
    rw [h2, Ef.app_sto] at hk
    refine opVC_sound (dr := true) hd (.inl ?_)
    unfold opVC0
    rw [h1]
    simp only [storeVC, St.eval, h3, h4, h6]
    exact ⟨h5, h7, h8, h2, hk⟩
  | new i B =>
    obtain ⟨_, hi, v, n, hv, hB, hty, h⟩ := h
    rw [Ef.app_new] at hk
    have hk' : K ((St.setBox { st with nb := st.nb + 1 } i ⟨v.cellsL, B.ty⟩).put o.dst (.loc i 0) none) := by rw [← hB]; exact hk
    have hs : ∀ {F : Fr} {a : Act} {w : World} {pr : Nat → Nat → Prop} {lam : Nat → Option Nat}, SRel P F st a w pr lam → SRel P F { st with nb := st.nb + 1 } a w pr lam := fun h =>
      ⟨h.size, h.defers, h.env, h.own, h.coh, h.box, h.inj, h.apart, h.nolam, h.prlt, h.keep, h.prsub, h.prnew, h.lamsub, h.coh2, h.old, h.ptr⟩
    rcases h with ⟨x, ho, hx⟩ | ⟨ho, hz⟩
    · intro F a w pr lam hF h
      exact opok_box (st := { st with nb := st.nb + 1 }) ho (by rw [← hx]; cases x <;> rfl) hv hi hty hd' hk' F a w pr lam hF (hs h)
    · intro F a w pr lam hF h
      exact opok_alloc (st := { st with nb := st.nb + 1 }) ho hz hv hi hty hd' hk' F a w pr lam hF (hs h)
  | put v =>
    obtain ⟨_, fr, h⟩ := h
    rw [Ef.app_put] at hk
    exact opok_quiet h (tk := none) (fun _ _ h => by cases h) hd' hk
  | copy x =>
    rw [Ef.app_copy] at hk
    exact opok_copy h hd' hk
  | cl v t e =>
    rw [Ef.app_cl] at hk
    rcases h with ⟨_, _, _, h⟩ | ⟨ss, x, ta, tb, args, tys, h1, h2, h3, h4⟩
    · exact opok_quiet h (tk := some (t, e)) (fun _ _ h => by cases h; rfl) hd' hk
    · refine opVC_sound (dr := true) hd (.inl ?_)
      unfold opVC0
      rw [h1]
      simp only [h2, h3]
      exact appendR_VC h4 hk
def bStep (P : Program) (ops : Array Oper) (Q : St → Prop) (fuel : Nat) (listed : Array Bool) (st : St) : Prop :=
  ∃ k o2 o3 o4 o5 o6, ops.size = k + 5 ∧ fuel = 4 ∧ ops[k]? = some o2 ∧ ops[k + 1]? = some o3 ∧ ops[k + 2]? = some o4 ∧ ops[k + 3]? = some o5 ∧ ops[k + 4]? = some o6 ∧ entVC P o2 o3 o4 o5 o6 st Q ∧ rsB ops listed k = true ∧
    (∀ i, i < k → ancB ops ops.size k i = true ∧ ancB ops ops.size (k + 2) i = true) ∧ ∀ i, k ≤ i → listed.getD i true = true → ops.size ≤ i
def sAny (P : Program) (n' : Nat) (ops : Array Oper) (Q : St → Prop) : Nat → Array Bool → St → Prop
  | 0, listed, st => Region.ready .any ops listed = [] ∧ Q st
  | fuel + 1, listed, st => ((Region.ready .any ops listed = [] → Q st) ∧ ∀ i ∈ Region.ready .any ops listed, qStep P n' ops i (sAny P n' ops Q fuel (listed.setIfInBounds i true)) st) ∨ bStep P ops Q fuel listed st
theorem wpAny_of_sAny {ops : Array Oper} {K : St → Prop} (hall : ∀ (i : Nat) (o : Oper), ops[i]? = some o → dstOK n' o = true) {F : Fr} (hF : F.nt = n') {Q : Exit → Act → World → Prop}
    (hn : ∀ st' a' w' pr' lam', K st' → SRel P F st' a' w' pr' lam' → Q .normal a' w') : ∀ (fuel : Nat) (listed : Array Bool) (st : St) (a : Act) (w : World) (pr : Nat → Nat → Prop) (lam : Nat → Option Nat), SRel P F st a w pr lam →
      sAny P n' ops K fuel listed st → wpAny P .any ops Q fuel listed a w
  | 0, _, st, a, w, pr, lam, hs, h => ⟨h.1, hn st a w pr lam h.2 hs⟩
  | fuel + 1, listed, st, a, w, pr, lam, hs, h => by
    rcases h with h | ⟨k, o2, o3, o4, o5, o6, hsz, rfl, g2, g3, g4, g5, g6, ⟨t, kt, et, xT, yT, op, m, x, d2, d3, d4, d5, ag, ks, i, B, ik, n, c, y, zv, ⟨⟨p2, e2, u2⟩, ⟨p3, e3, u3⟩, ⟨p4, e4, u4⟩, ⟨p5, e5, u5⟩, ⟨p6, e6, u6⟩⟩, ⟨h23, h24, h25, h34, h35, h45⟩, ⟨m2, m3, m4, m5⟩, ⟨x2, x3, x4, x5⟩, ⟨q1, q2, q3, q4, q5, q6, q7, q8, q9, q10, q11⟩, hk⟩, hrs, _, _⟩
    rotate_left
    · have b2 := dstOK_spec (hall _ _ g2) _ e2
      have b3 := dstOK_spec (hall _ _ g3) _ e3
      have b4 := dstOK_spec (hall _ _ g4) _ e4
      have b5 := dstOK_spec (hall _ _ g5) _ e5
      obtain ⟨t4, t5, w1, w3, hA, hB, hD, hE, hQ⟩ := ent5 p2 p3 p4 p5 p6 q1 b2 b3 b4 b5 q2 q3 q4 q5 q6 q7 q8 q9 q10 q11 hk F a w pr lam hF hs (Q .normal) hn
      have sz := hs.size
      rw [hF] at sz
      exact wpAny_ent hrs g2 g3 g4 g5 g6 u2 u3 u4 u5 u6 e2 e3 e4 e5 e6 h23 h24 h25 h34 h35 h45 m2 m3 m4 m5 x2 x3 x4 x5 (by rw [sz]; exact b2) (by rw [sz]; exact b3) (by rw [sz]; exact b4) (by rw [sz]; exact b5) hA hB hD hE hQ
    refine ⟨fun h0 => hn st a w pr lam (h.1 h0) hs, fun i hi => ?_⟩
    have hq := h.2 i hi
    unfold qStep at hq
    unfold wpOp
    split
    · rename_i ho; rw [ho] at hq; exact wpAny_of_sAny hall hF hn fuel _ st a w pr lam hs hq
    · rename_i o ho
      rw [ho] at hq
      have hd := dstOK_spec (hall i o ho)
      rcases hq with ⟨G, ⟨hg, hv⟩ | ⟨hg, rfl⟩, hk⟩ | ⟨_, hg, hk⟩
      · rw [wanted_of hs hg]
        simp only [if_true]
        left
        exact Ef.can_ok (K := fun st' => sAny P n' ops K fuel (listed.setIfInBounds i true) st') (hall i o ho) hv hk F a w pr lam hF hs _ _ fun st' a' w' pr' lam' hk' hs' => wpAny_of_sAny hall hF hn fuel _ st' a' w' pr' lam' hs' hk'
      · rw [wanted_of hs hg]
        simp only [Bool.false_eq_true, if_false]
        rw [Ef.app_put] at hk
        exact wpAny_of_sAny hall hF hn fuel _ _ _ w pr lam (hs.putUn (by rw [hF]; exact hd)) hk
      · rw [wanted_of hs hg]
        simp only [if_true]
        left
        exact hk F a w pr lam hF hs _ _ fun st' a' w' pr' lam' hk' hs' => wpAny_of_sAny hall hF hn fuel _ st' a' w' pr' lam' hs' hk'
theorem app_env {G : Ef} {dst : Option Nat} {st : St} {s : Nat} (h : dst ≠ some s) : (G.app dst st).env s = st.env s := by
  show (if dst = some s then _ else _ : V × Option (Nat × TypeId)).1 = _
  rw [if_neg h]; rfl
theorem app_tok {G : Ef} {dst : Option Nat} {st : St} {s : Nat} (h : dst ≠ some s) : (G.app dst st).tok s = clT G.c (st.tok s) := by
  show (if dst = some s then _ else _ : V × Option (Nat × TypeId)).2 = _
  rw [if_neg h]; rfl
theorem app_looks {dst : Option Nat} {ops : Array Oper} {o : Oper} (h : ∀ d, dst = some d → d ∉ o.looksAt ops) : ∀ s, Operand.tmp s ∈ o.op.operands → dst ≠ some s := by
  intro s hs hd
  have hd := h s hd
  simp only [Oper.looksAt, List.mem_append, not_or] at hd
  apply hd.1
  rw [List.mem_filterMap]
  exact ⟨.tmp s, by simpa using hs, rfl⟩
theorem app_eval {G : Ef} {dst : Option Nat} {st : St} {ops : Array Oper} {o : Oper} (h : ∀ d, dst = some d → d ∉ o.looksAt ops) :
    (∀ x ∈ o.op.operands, (G.app dst st).eval x = st.eval x ∧ (G.app dst st).tokOf x = clT G.c (st.tokOf x)) ∧ gdB (ops.toList.map (·.dst)) (G.app dst st) o.guard = gdB (ops.toList.map (·.dst)) st o.guard := by
  constructor
  · intro x hx
    cases x with
    | tmp t =>
      have hne := app_looks h t hx
      exact ⟨app_env hne, app_tok hne⟩
    | const v => exact ⟨rfl, (clT_none _).symm⟩
    | global g => exact ⟨rfl, (clT_none _).symm⟩
    | func f => exact ⟨rfl, (clT_none _).symm⟩
  · unfold gdB
    cases hg : o.guard with
    | none => rfl
    | some gw =>
      obtain ⟨j, want⟩ := gw
      simp only
      cases hds : (ops.toList.map (·.dst))[j]? with
      | none => rfl
      | some od =>
        cases od with
        | none => rfl
        | some d' =>
          simp only
          have hne : dst ≠ some d' := by
            intro hq
            have hd := h d' hq
            simp only [Oper.looksAt, List.mem_append, not_or] at hd
            apply hd.2
            rw [hg]
            rw [List.getElem?_map, Array.getElem?_toList] at hds
            cases ho : ops[j]? with
            | none => rw [ho] at hds; simp at hds
            | some o' =>
              rw [ho] at hds
              simp at hds
              simp only [ho, Option.bind_some, hds]
              simp
          rw [app_env hne]
theorem QV.congr {o : Oper} {ρ ρ' : Operand → V} {bx : Nat → Option Box} {v : V} {fr : Option (Nat × TypeId)} (hq : QV P o ρ bx v fr) (he : ∀ x ∈ o.op.operands, ρ' x = ρ x) : QV P o ρ' bx v fr :=
  fun a w pr lam h1 h2 => hq a w pr lam h1 fun x hx => by rw [← he x hx]; exact h2 x hx
theorem app_operands {o : Oper} {ss : Nat} {x : Operand} {args : Array Operand} {tys : Array TypeId} (h1 : o.op = .call { callee := .builtin .append, args := args, argTypes := tys }) (h2 : args.toList = [.tmp ss, x]) :
    Operand.tmp ss ∈ o.op.operands ∧ x ∈ o.op.operands := by
  obtain ⟨l⟩ := args
  simp only at h2
  subst h2
  rw [h1]
  simp [Op.operands, Call.operands]
theorem QV.more {o : Oper} {ρ : Operand → V} {bx bx' : Nat → Option Box} {v : V} {fr : Option (Nat × TypeId)} (hq : QV P o ρ bx v fr) (hb : ∀ i B, bx i = some B → bx' i = some B) : QV P o ρ bx' v fr :=
  fun a w pr lam h1 h2 h3 => hq a w pr lam h1 h2 fun i B hi => h3 i B (hb i B hi)
theorem newC.congr {o : Oper} {st st' : St} {B : Box} (h : newC P o st B) (he : ∀ x ∈ o.op.operands, st'.eval x = st.eval x) : newC P o st' B := by
  obtain ⟨v, n, h1, h2, h3, h4⟩ := h
  refine ⟨v, n, h1, h2, h3, ?_⟩
  rcases h4 with ⟨x, h4, h5⟩ | h4
  · exact .inl ⟨x, h4, by rw [he x (by rw [h4]; simp [Op.operands])]; exact h5⟩
  · exact .inr h4
theorem stoC.stoO {o : Oper} {st : St} {k : Nat} {C : Box} (h : stoC P o st k C) : stoO o = true := by
  obtain ⟨t, d, y, n, B, off, h1, _⟩ := h
  simp [Go.Eng.stoO, h1]
theorem stoC.newB {o : Oper} {st : St} {k : Nat} {C : Box} (h : stoC P o st k C) : newB o = false := by
  obtain ⟨t, d, y, n, B, off, h1, _⟩ := h
  simp [Go.Eng.newB, h1]
theorem stoC.congr {o : Oper} {st st' : St} {k : Nat} {C : Box} (h : stoC P o st k C) (he : ∀ x ∈ o.op.operands, st'.eval x = st.eval x) (hb : st'.box = st.box) : stoC P o st' k C := by
  obtain ⟨t, d, y, n, B, off, h1, h2, h3, h4, h5, h6, h7, h8, h9⟩ := h
  have e1 : st'.env d = st.env d := he (.tmp d) (by rw [h1]; simp [Op.operands])
  have e2 : st'.eval y = st.eval y := he y (by rw [h1]; simp [Op.operands])
  exact ⟨t, d, y, n, B, off, h1, h2, e1.trans h3, by rw [hb]; exact h4, h5, h6, by rw [e2]; exact h7, h8, by rw [e2]; exact h9⟩
theorem Ef.can_app {o : Oper} {ops : Array Oper} {β : Nat → Option Box} {st : St} {G Gj : Ef} {dst : Option Nat} (h : ∀ d, dst = some d → d ∉ o.looksAt ops) (hc : G.can P o β st)
    (hne : ∀ v t e t', G = .cl v t e → Gj.c = some t' → t ≠ t') (hnn : ∀ i B j C, G = .new i B → Gj = .new j C → i ≠ j) (hns : ∀ i B k C, G = .new i B → Gj ≠ .sto k C) (hni : ∀ k C, G ≠ .sto k C) : G.can P o β (Gj.app dst st) := by
  have he := (app_eval (G := Gj) (st := st) h).1
  cases G with
  | put v => obtain ⟨hn, fr, hc⟩ := hc; exact ⟨hn, fr, QV.congr hc fun x hx => (he x hx).1⟩
  | copy x => exact hc
  | sto k C => exact absurd rfl (hni k C)
  | new i B =>
    obtain ⟨h1, h2, h3⟩ := hc
    refine ⟨h1, ?_, h3.congr fun x hx => (he x hx).1⟩
    cases Gj with
    | new j C => show upd st.box j (some C) i = none; rw [upd_ne _ _ _ _ (hnn i B j C rfl rfl)]; exact h2
    | sto k C => exact absurd rfl (hns i B k C rfl)
    | _ => exact h2
  | cl v t e =>
    rcases hc with ⟨h0, h1, h2, h3⟩ | ⟨ss, x, ta, tb, args, tys, h1, h2, h3, h4⟩
    · exact .inl ⟨h0, h1, h2, QV.congr h3 fun x hx => (he x hx).1⟩
    · obtain ⟨m1, m2⟩ := app_operands h1 h2
      have hs := app_looks h ss m1
      obtain ⟨ht, hl⟩ := appendR_tok h4
      refine .inr ⟨ss, x, ta, tb, args, tys, h1, h2, h3, ?_⟩
      rw [app_env hs, app_tok hs, (he x m2).1, ht, clT_keep hl fun t' hq => hne v t e t' rfl hq, ← ht]
      exact h4
theorem Ef.can_back {o : Oper} {ops : Array Oper} {st : St} {G Gj : Ef} {dst : Option Nat} (h : ∀ d, dst = some d → d ∉ o.looksAt ops) (hc : G.can P o (Gj.app dst st).box (Gj.app dst st))
    (hfr : ∀ i B, Gj = .new i B → st.box i = none) (hnew : ∀ i B, Gj = .new i B → newB o = true) (hni : ∀ k C, Gj ≠ .sto k C) : G.can P o st.box st := by
  have he := (app_eval (G := Gj) (st := st) h).1
  have hbk : newB o = false → (Gj.app dst st).box = st.box := by
    intro hn
    show Gj.bx st.box = st.box
    cases Gj with
    | new i B => rw [hnew i B rfl] at hn; cases hn
    | sto k C => exact absurd rfl (hni k C)
    | _ => rfl
  cases G with
  | put v =>
    obtain ⟨⟨hn, hs⟩, fr, hc⟩ := hc
    rw [hbk hn] at hc
    exact ⟨⟨hn, hs⟩, fr, QV.congr hc fun x hx => ((he x hx).1).symm⟩
  | copy x => exact hc
  | sto k C => exact hc.congr (fun x hx => ((he x hx).1).symm) (hbk hc.newB).symm
  | new i B =>
    obtain ⟨h1, h2, h3⟩ := hc
    refine ⟨h1, ?_, h3.congr fun x hx => ((he x hx).1).symm⟩
    cases Gj with
    | new j C =>
      have h2' : upd st.box j (some C) i = none := h2
      by_cases e : i = j
      · subst e; simp at h2'
      · rw [upd_ne _ _ _ _ e] at h2'; exact h2'
    | sto k C => exact absurd rfl (hni k C)
    | _ => exact h2
  | cl v t e =>
    have hn : newB o = false := by
      rcases hc with ⟨h0, _⟩ | ⟨ss, x, ta, tb, args, tys, h1, _⟩
      · unfold newOp at h0
        unfold newB
        split at h0 <;> simp_all
      · simp [newB, h1]
    rcases hc with ⟨h0, h1, h2, h3⟩ | ⟨ss, x, ta, tb, args, tys, h1, h2, h3, h4⟩
    · rw [hbk hn] at h3
      exact .inl ⟨h0, h1, h2, QV.congr h3 fun x hx => ((he x hx).1).symm⟩
    · obtain ⟨m1, m2⟩ := app_operands h1 h2
      have hs := app_looks h ss m1
      obtain ⟨ht, hl⟩ := appendR_tok h4
      refine .inr ⟨ss, x, ta, tb, args, tys, h1, h2, h3, ?_⟩
      rw [app_env hs, ht, (he x m2).1] at h4
      rw [app_tok hs] at ht
      rw [clT_some ht]
      exact h4
theorem Ef.can.more {o : Oper} {β : Nat → Option Box} {st : St} {G : Ef} (h : G.can P o β st) (hb : ∀ k B, β k = some B → st.box k = some B) : G.can P o st.box st := by
  cases G with
  | put v => obtain ⟨h1, fr, h2⟩ := h; exact ⟨h1, fr, h2.more hb⟩
  | copy x => exact h
  | new i B => exact h
  | sto k C => exact h
  | cl v t e =>
    rcases h with ⟨h0, h1, h2, h3⟩ | h
    · exact .inl ⟨h0, h1, h2, h3.more hb⟩
    · exact .inr h
theorem YldE.more {ops : Array Oper} {o : Oper} {β : Nat → Option Box} {st : St} {G : Ef} (h : YldE P ops o G β st) (hb : ∀ k B, β k = some B → st.box k = some B) : YldE P ops o G st.box st := by
  rcases h with ⟨h1, h2⟩ | h
  · exact .inl ⟨h1, h2.more hb⟩
  · exact .inr h
def Fresh (ops : Array Oper) (i : Nat) (β : Nat → Option Box) (listed : Array Bool) (st : St) : Prop :=
  (∀ k B, β k = some B → st.box k = some B) ∧ ∀ (m : Nat) (om : Oper) (d : Nat), ops[m]? = some om → newB om = true → om.guard = none → om.dst = some d → i < m → listed.getD m true = true → ∃ k, st.env d = .loc k 0 ∧ β k = none
def stoOK (ops : Array Oper) (j : Nat) : Bool := match ops[j]? with
  | some o => (match o.op, o.guard with
    | .store _ (.tmp d) _, none => (List.range ops.size).any fun m => (match ops[m]? with
      | some om => newB om && (match om.guard with | none => true | some _ => false) && (match om.dst with | some d' => Nat.beq d' d | none => false) && ancB ops ops.size j m
      | none => false) && (List.range ops.size).all fun i => Nat.beq i j || (bif Nat.blt i j then ancB ops ops.size j i || Nat.blt i m else ancB ops ops.size i j)
    | _, _ => false)
  | none => false
theorem stoOK_spec {ops : Array Oper} {j : Nat} {o : Oper} (ho : ops[j]? = some o) (h : stoOK ops j = true) : ∃ t d y m om, o.op = .store t (.tmp d) y ∧ o.guard = none ∧ ops[m]? = some om ∧ newB om = true ∧ om.guard = none ∧ om.dst = some d ∧ ancB ops ops.size j m = true ∧
    ∀ i, i < ops.size → i = j ∨ (i < j ∧ (ancB ops ops.size j i = true ∨ i < m)) ∨ (j < i ∧ ancB ops ops.size i j = true) := by
  unfold stoOK at h
  rw [ho] at h
  simp only at h
  split at h
  · rename_i t d y h1 h2
    rw [List.any_eq_true] at h
    obtain ⟨m, hm, h⟩ := h
    rw [Bool.and_eq_true] at h
    obtain ⟨h3, h4⟩ := h
    split at h3
    · rename_i om hom
      simp only [Bool.and_eq_true] at h3
      obtain ⟨⟨⟨a1, a2⟩, a3⟩, a4⟩ := h3
      refine ⟨t, d, y, m, om, h1, h2, hom, a1, ?_, ?_, a4, fun i hi => ?_⟩
      · split at a2
        · assumption
        · cases a2
      · split at a3
        · rename_i d' hd'
          rw [hd', Nat.eq_of_beq_eq_true a3]
        · cases a3
      · rw [List.all_eq_true] at h4
        have := h4 i (by simpa using hi)
        rw [Bool.or_eq_true] at this
        rcases this with this | this
        · exact .inl (Nat.eq_of_beq_eq_true this)
        · cases hb : Nat.blt i j with
          | true =>
            rw [hb] at this
            simp only [cond_true, Bool.or_eq_true] at this
            have hlt : i < j := Nat.le_of_ble_eq_true hb
            rcases this with this | this
            · exact .inr (.inl ⟨hlt, .inl this⟩)
            · exact .inr (.inl ⟨hlt, .inr (Nat.le_of_ble_eq_true this)⟩)
          | false =>
            rw [hb] at this
            simp only [cond_false] at this
            have hge : ¬ i < j := fun q => by
              have : Nat.blt i j = true := Nat.ble_eq_true_of_le q
              rw [this] at hb; cases hb
            by_cases e : i = j
            · exact .inl e
            · exact .inr (.inr ⟨by omega, this⟩)
    · cases h3
  · cases h
def Inv (ops : Array Oper) (listed : Array Bool) (st : St) : Prop :=
  ∀ (j : Nat) (oj : Oper) (d : Nat), ops[j]? = some oj → listed.getD j true = false → newOp oj = true → oj.dst = some d → ∀ s t e, st.tok s = some (t, e) → tcl t < 2 → t % 1000000 ≠ d
theorem getD_set_self (listed : Array Bool) (i : Nat) : (listed.setIfInBounds i true).getD i true = true := by
  rcases Nat.lt_or_ge i listed.size with h | h
  · simp [h]
  · simp [h]
theorem Inv.step {ops : Array Oper} {listed : Array Bool} {st : St} {i : Nat} {oi : Oper} {G : Ef} (hI : Inv ops listed st) (hdd : ∀ (j k : Nat) (a b : Oper) (d : Nat), ops[j]? = some a → ops[k]? = some b → a.dst = some d → b.dst = some d → j = k)
    (hoi : ops[i]? = some oi) {β : Nat → Option Box} (hy : YldE P ops oi G β st) : Inv ops (listed.setIfInBounds i true) (G.app oi.dst st) := by
  intro j oj d hoj hl hno hdj s t e ht h2
  have hji : i ≠ j := by
    rintro rfl
    rw [getD_set_self] at hl; cases hl
  rw [getD_set_ne true hji] at hl
  by_cases hs : oi.dst = some s
  · have ht' : G.tk st = some (t, e) := by
      have : (G.app oi.dst st).tok s = G.tk st := by
        show (if oi.dst = some s then _ else _ : V × Option (Nat × TypeId)).2 = _
        rw [if_pos hs]
      rw [← this]; exact ht
    rcases hy with ⟨_, hc⟩ | ⟨_, rfl⟩
    · cases G with
      | put v => cases ht'
      | new i B => cases ht'
      | sto k C => cases ht'
      | copy x =>
        cases x with
        | tmp s' => exact hI j oj d hoj hl hno hdj s' t e ht' h2
        | const v => cases ht'
        | global g => cases ht'
        | func f => cases ht'
      | cl v t' e' =>
        simp only [Ef.tk, Option.some.injEq, Prod.mk.injEq] at ht'
        obtain ⟨rfl, rfl⟩ := ht'
        rcases hc with ⟨_, h1, _, _⟩ | ⟨ss, x, ta, tb, args, tys, h1, h2', h3, h4⟩
        · intro hq
          rw [hq] at h1
          exact hji (hdd i j oi oj d hoi hoj h1 hdj)
        · exact hI j oj d hoj hl hno hdj ss _ _ (appendR_tok h4).1 h2
    · cases ht'
  · rw [app_tok hs] at ht
    exact hI j oj d hoj hl hno hdj s t e (clT_some ht) h2
theorem qStep_app {ops : Array Oper} {listed : Array Bool} {i j : Nat} {oi oj : Oper} {G : Ef} (hoi : ops[i]? = some oi) (hoj : ops[j]? = some oj) (hqj : ¬ (hardOp oj = true ∧ pinned ops j = true)) (hnw : newB oi = true → newB oj = true) (hnsi : stoO oi = false) (hcl0 : Cl ops listed) (hsj : stoO oj = true → ¬ pinned ops j = true → stoOK ops j = true) (hij : i ≠ j) (hir : ∀ e ∈ oi.after, Region.binds .any e = true → listed.getD e.on false = true) (hjr : ∀ e ∈ oj.after, Region.binds .any e = true → listed.getD e.on false = true) {β : Nat → Option Box} (hap : oi.apart ops oj = true)
    (hdd : ∀ (j k : Nat) (a b : Oper) (d : Nat), ops[j]? = some a → ops[k]? = some b → a.dst = some d → b.dst = some d → j = k)
    (hli : listed.getD i true = false) (hlj : listed.getD j true = false) (hna : ¬(appOp oi = true ∧ appOp oj = true)) {K : St → Prop} {st : St} (hI : Inv ops listed st) (hF : Fresh ops i β listed st) (hy : YldE P ops oi G β st)
    (h : qStep P n' ops j K (G.app oi.dst st)) : qStep P n' ops j (fun st' => Inv ops (listed.setIfInBounds j true) st' ∧ Fresh ops i β (listed.setIfInBounds j true) st' ∧ YldE P ops oi G β st' ∧ K (G.app oi.dst st')) st := by
  obtain ⟨h1, h2, h3⟩ := Oper.apart_spec hap
  unfold qStep at h ⊢
  rw [hoj] at h ⊢
  simp only at h ⊢
  rcases h with ⟨Gj, hyj, hk⟩ | ⟨hh, _⟩
  rotate_left
  · exact absurd hh hqj
  have e1 := app_eval (G := G) (st := st) h1
  have hGs : ∀ k C, G ≠ .sto k C := by
    rintro k C rfl
    rcases hy with ⟨_, q⟩ | ⟨_, q⟩
    · rw [q.stoO] at hnsi; cases hnsi
    · cases q
  have hfi : ∀ i B, G = .new i B → st.box i = none ∧ newB oi = true := by
    rintro i B rfl
    rcases hy with ⟨_, q⟩ | ⟨_, q⟩
    · exact ⟨q.2.1, q.1⟩
    · cases q
  have hnn : ∀ i B j C, G = .new i B → Gj = .new j C → i ≠ j := by
    rintro i B j C rfl rfl rfl
    rcases hyj with ⟨_, q⟩ | ⟨_, q⟩
    · have := q.2.1
      change upd st.box i (some B) i = none at this
      simp at this
    · cases q
  have hyj' : YldE P ops oj Gj st.box st := by
    rcases hyj with ⟨q1, q2⟩ | ⟨q1, q2⟩
    · exact .inl ⟨e1.2 ▸ q1, Ef.can_back h1 q2 (fun i B hg => (hfi i B hg).1) (fun i B hg => hnw (hfi i B hg).2) hGs⟩
    · exact .inr ⟨e1.2 ▸ q1, q2⟩
  have e2 := app_eval (G := Gj) (st := st) h3
  have hfj : ∀ i B, Gj = .new i B → st.box i = none := by
    rintro i B rfl
    rcases hyj' with ⟨_, q⟩ | ⟨_, q⟩
    · exact q.2.1
    · cases q
  have hns : ∀ i B k C, G = .new i B → Gj ≠ .sto k C := by
    rintro i B k C hg rfl
    have h1 := hnw (hfi i B hg).2
    rcases hyj' with ⟨_, q⟩ | ⟨_, q⟩
    · rw [q.newB] at h1; cases h1
    · cases q
  have hne : ∀ vi ti ei vj tj ej, G = .cl vi ti ei → Gj = .cl vj tj ej → ti ≠ tj := by
    rintro vi ti ei vj tj ej rfl rfl rfl
    have ci : (Ef.cl vi ti ei).can P oi β st := by
      rcases hy with ⟨_, q⟩ | ⟨_, q⟩
      · exact q
      · cases q
    have cj : (Ef.cl vj ti ej).can P oj st.box st := by
      rcases hyj' with ⟨_, q⟩ | ⟨_, q⟩
      · exact q
      · cases q
    rcases ci with ⟨i0, i1, i2, _⟩ | ⟨ss, x, ta, tb, args, tys, i1, i2, i3, i4⟩
    · rcases cj with ⟨j0, j1, j2, _⟩ | ⟨ss, x, ta, tb, args, tys, j1, j2, j3, j4⟩
      · exact h2 _ i1 j1
      · obtain ⟨q1, q2⟩ := appendR_tok j4
        exact hI i oi _ hoi hli i0 i1 ss ti ej q1 q2 rfl
    · rcases cj with ⟨j0, j1, j2, _⟩ | ⟨ss', x', ta', tb', args', tys', j1, j2, j3, j4⟩
      · obtain ⟨q1, q2⟩ := appendR_tok i4
        exact hI j oj _ hoj hlj j0 j1 ss ti ei q1 q2 rfl
      · exact hna ⟨by simp [appOp, i1], by simp [appOp, j1]⟩
  have hcl : ∀ (A : Ef) {t' : Nat}, A.c = some t' → ∃ v e, A = .cl v t' e := by
    intro A t' ha
    cases A <;> simp [Ef.c] at ha
    subst ha; exact ⟨_, _, rfl⟩
  have hF' : Fresh ops i β (listed.setIfInBounds j true) (Gj.app oj.dst st) := by
    constructor
    · intro k B hb
      have hC := hF.1 k B hb
      show Gj.bx st.box k = some B
      cases Gj with
      | new i' B' =>
        have := hfj i' B' rfl
        show upd st.box i' (some B') k = some B
        rw [upd_ne _ _ _ _ (by rintro rfl; rw [hC] at this; cases this)]
        exact hC
      | sto k' C' =>
        show upd st.box k' (some C') k = some B
        have hk' : β k' = none := by
          have q : stoC P oj st k' C' := by
            rcases hyj' with ⟨_, q⟩ | ⟨_, q⟩
            · exact q
            · cases q
          have hso := q.stoO
          have hhard : hardOp oj = true := by
            unfold stoO at hso
            unfold hardOp
            split at hso
            · rename_i ho; rw [ho]
            · cases hso
          obtain ⟨t, d, y, m, om, r1, r2, r3, r4, r5, r6, r7, r8⟩ := stoOK_spec hoj (hsj hso fun hp => hqj ⟨hhard, hp⟩)
          obtain ⟨t', d', y', n, B0, off, u1, _, u3, _⟩ := q
          rw [r1] at u1
          cases u1
          have hml : listed.getD m false = true := anc_listed hcl0 _ j r7 fun oj' ho' e he hb => by rw [hoj] at ho'; cases ho'; exact hjr e he hb
          have hml' : listed.getD m true = true := by
            rcases Nat.lt_or_ge m listed.size with h' | h'
            · simp [h'] at hml ⊢; exact hml
            · simp [Array.getElem?_eq_none h'] at hml
          have him : i < m := by
            rcases r8 i (Array.getElem?_eq_some_iff.1 hoi).1 with e | ⟨_, e | e⟩ | ⟨_, e⟩
            · exact absurd e hij
            · have hl := anc_listed hcl0 _ j e fun oj' ho' e he hb => by rw [hoj] at ho'; cases ho'; exact hjr e he hb
              rw [unlisted_of hli] at hl; cases hl
            · exact e
            · have hl := anc_listed hcl0 _ i e fun oj' ho' e he hb => by rw [hoi] at ho'; cases ho'; exact hir e he hb
              rw [unlisted_of hlj] at hl; cases hl
          obtain ⟨k0, w1, w2⟩ := hF.2 m om d r3 r4 r5 r6 him hml'
          rw [w1] at u3
          cases u3
          exact w2
        rw [upd_ne _ _ _ _ (by rintro rfl; rw [hk'] at hb; cases hb)]
        exact hC
      | _ => exact hC
    · intro m om d hom hn hg hd him hl
      by_cases e : j = m
      · subst e
        rw [hoj] at hom; cases hom
        have hw : gdB (ops.toList.map (·.dst)) st oj.guard = some true := by rw [hg]; rfl
        rcases hyj' with ⟨_, q⟩ | ⟨q, _⟩
        · cases Gj with
          | new k B =>
            refine ⟨k, ?_, ?_⟩
            · rw [hd]
              show (if some d = some d then _ else _ : V × Option (Nat × TypeId)).1 = _
              rw [if_pos rfl]; rfl
            · cases hb : β k with
              | none => rfl
              | some B0 =>
                have hC := hF.1 k B0 hb
                have := q.2.1
                rw [hC] at this; cases this
          | put v =>
            have := q.1.1
            rw [hn] at this; cases this
          | copy x => rcases q with q | q <;> simp [newB, q] at hn
          | sto k C => rw [q.newB] at hn; cases hn
          | cl v t e =>
            exfalso
            rcases q with ⟨h0, _⟩ | ⟨ss, x, ta, tb, args, tys, h1, _⟩
            · unfold newOp at h0
              unfold newB at hn
              split at h0 <;> simp_all
            · simp [newB, h1] at hn
        · rw [hw] at q; cases q
      · rw [getD_set_ne true e] at hl
        obtain ⟨k, q1, q2⟩ := hF.2 m om d hom hn hg hd him hl
        refine ⟨k, ?_, q2⟩
        have hne : oj.dst ≠ some d := fun hq => e (hdd j m oj om d hoj hom hq hd)
        rw [app_env hne]
        exact q1
  refine .inl ⟨Gj, hyj', hI.step hdd hoj hyj', hF', ?_, ?_⟩
  · rcases hy with ⟨q1, q2⟩ | ⟨q1, q2⟩
    · refine .inl ⟨e2.2 ▸ q1, Ef.can_app h3 q2 (fun v t e t' hg hc => ?_) hnn hns hGs⟩
      obtain ⟨v', e', rfl⟩ := hcl Gj hc
      exact hne _ _ _ _ _ _ hg rfl
    · exact .inr ⟨e2.2 ▸ q1, q2⟩
  · have hop : ∀ (A : Ef) (o : Oper) (β : Nat → Option Box) (st : St), YldE P ops o A β st → ∀ x, A = .copy x → x ∈ o.op.operands := by
      rintro A o β st hy x rfl
      rcases hy with ⟨_, q⟩ | ⟨_, q⟩
      · rcases q with q | q <;> simp [q, Op.operands]
      · cases q
    have hlt : ∀ (A : Ef) (o : Oper) (β : Nat → Option Box) (st : St), YldE P ops o A β st → ∀ v t e, A = .cl v t e → tcl t < 2 := by
      rintro A o β st hy v t e rfl
      rcases hy with ⟨_, q⟩ | ⟨_, q⟩
      · rcases q with ⟨_, _, q, _⟩ | ⟨ss, x, ta, tb, args, tys, i1, i2, i3, i4⟩
        · exact q
        · exact (appendR_tok i4).2
      · cases q
    have key : ∀ (A B : Ef) (o : Oper) (β : Nat → Option Box) (dst : Option Nat), (∀ d, dst = some d → d ∉ o.looksAt ops) → YldE P ops o A β st → (∀ v t e v' t' e', A = .cl v t e → B = .cl v' t' e' → t ≠ t') →
        A.val (B.app dst st) = A.val st ∧ A.tk (B.app dst st) = clT B.c (A.tk st) := by
      intro A B o β dst hd hy hne
      have e := (app_eval (G := B) (st := st) hd).1
      cases A with
      | put v => exact ⟨rfl, (clT_none _).symm⟩
      | new i B => exact ⟨rfl, (clT_none _).symm⟩
      | sto k C => exact ⟨rfl, (clT_none _).symm⟩
      | copy x => exact e x (hop _ _ _ _ hy x rfl)
      | cl v t e' =>
        refine ⟨rfl, (clT_keep (hlt _ _ _ _ hy v t e' rfl) fun t' hc => ?_).symm⟩
        obtain ⟨v', e'', rfl⟩ := hcl B hc
        exact hne _ _ _ _ _ _ rfl rfl
    obtain ⟨a1, a2⟩ := key G Gj oi _ oj.dst h3 hy hne
    obtain ⟨b1, b2⟩ := key Gj G oj _ oi.dst h1 hyj' fun v t e v' t' e' q1 q2 q3 => hne _ _ _ _ _ _ q2 q1 q3.symm
    rw [← Ef.comm (Gi := G) (Gj := Gj) h2 a1 b1 a2 b2 hnn hns hGs]
    exact hk
theorem sAny_first {ops : Array Oper} {Q : St → Prop} {i : Nat} {oi : Oper} {G : Ef} {β : Nat → Option Box} (hi : ops[i]? = some oi) (hnsi : stoO oi = false)
    (hsto : ∀ (j : Nat) (oj : Oper), ops[j]? = some oj → stoO oj = true → ¬ pinned ops j = true → stoOK ops j = true)
    (hch : ∀ (j k : Nat) (a b : Oper), ops[j]? = some a → ops[k]? = some b → appOp a = true → appOp b = true → j ≠ k → chained ops j k)
    (hdd : ∀ (j k : Nat) (a b : Oper) (d : Nat), ops[j]? = some a → ops[k]? = some b → a.dst = some d → b.dst = some d → j = k) :
    ∀ (fuel : Nat) (listed : Array Bool) (st : St), Cl ops listed →
      (∀ (j : Nat) (oj : Oper), ops[j]? = some oj → j ≠ i → listed.getD j true = false → (∀ e ∈ oj.after, Region.binds .any e = true → e.on ≠ i) → oi.apart ops oj = true) →
      (newB oi = true → ∀ (j : Nat) (oj : Oper), ops[j]? = some oj → j ≠ i → listed.getD j true = false → newB oj = true ∨ ancB ops ops.size j i = true) →
      i ∈ Region.ready .any ops listed → Inv ops listed st → Fresh ops i β listed st → YldE P ops oi G β st →
      sAny P n' ops Q fuel (listed.setIfInBounds i true) (G.app oi.dst st) → sAny P n' ops Q (fuel + 1) listed st := by
  have step : ∀ {K : St → Prop} {st : St} {listed : Array Bool}, Fresh ops i β listed st → YldE P ops oi G β st → K (G.app oi.dst st) → qStep P n' ops i K st := by
    intro K st listed hF hy hk
    unfold qStep
    rw [hi]
    exact .inl ⟨G, hy.more hF.1, hk⟩
  intro fuel
  induction fuel with
  | zero =>
    intro listed st _ _ _ hr _ hF hy H
    refine .inl ⟨fun h => (by rw [h] at hr; cases hr), fun j hj => ?_⟩
    by_cases hji : j = i
    · subst hji; exact step hF hy H
    · have := ready_mono hj hji
      rw [H.1] at this
      cases this
  | succ fuel ih =>
    intro listed st hcl hfree hnw hr hI hF hy H
    refine .inl ⟨fun h => (by rw [h] at hr; cases hr), fun j hj => ?_⟩
    by_cases hji : j = i
    · subst hji; exact step hF hy H
    · have h1 := ((H.resolve_right fun ⟨k, o2, o3, o4, o5, o6, hsz, _, _, _, _, _, _, _, hrs, hpin', hun⟩ => by
        have hj' := ready_mono hj hji
        have hiun := (mem_ready.1 hr).1
        have hik : i < k := by
          rcases Nat.lt_or_ge i k with q | q
          · exact q
          · have hsi := hun i q (getD_set_self listed i)
            have := (Array.getElem?_eq_some_iff.1 hi).1
            omega
        have hrd : Region.ready .any ops (listed.setIfInBounds i true) = [k, k + 2] := by
          simp only [rsB, Bool.and_eq_true, beq_iff_eq] at hrs
          exact hrs.1.1.1.1.1.1.1.1.1.1.1.1.1.1.1.1.1.1.1.1.1.1.1.1
        rw [hrd] at hj'
        obtain ⟨_, oj, hoj, hall⟩ := mem_ready.1 hj
        have hanc : ancB ops ops.size j i = true := by
          rcases List.mem_cons.1 hj' with rfl | hj'
          · exact (hpin' i hik).1
          · rw [List.mem_singleton] at hj'; subst hj'; exact (hpin' i hik).2
        have hli := anc_listed hcl _ j hanc fun oj' ho' e he hb => by rw [hoj] at ho'; cases ho'; exact hall e he hb
        rw [unlisted_of hiun] at hli
        cases hli).2) j (ready_mono hj hji)
      obtain ⟨hjun, oj, hoj, hall⟩ := mem_ready.1 hj
      have hiun := (mem_ready.1 hr).1
      have hnot : ∀ e ∈ oj.after, Region.binds .any e = true → e.on ≠ i := fun e he hb heq => by
        have h1 := hall e he hb
        have h0 := (mem_ready.1 hr).1
        rw [heq] at h1
        rcases Nat.lt_or_ge i listed.size with h' | h'
        · simp [h'] at h0 h1; rw [h0] at h1; cases h1
        · simp [Array.getElem?_eq_none h'] at h1
      have hqj : ¬ (hardOp oj = true ∧ pinned ops j = true) := fun hq => absurd (pinned_alone hcl hq.2 hr hj) (Ne.symm hji)
      have hnwj : newB oi = true → newB oj = true := fun hn => by
        rcases hnw hn j oj hoj hji hjun with q | q
        · exact q
        · have hli := anc_listed hcl _ j q fun oj' ho' e he hb => by rw [hoj] at ho'; cases ho'; exact hall e he hb
          rw [unlisted_of hiun] at hli
          cases hli
      have hna : ¬(appOp oi = true ∧ appOp oj = true) := fun ⟨q1, q2⟩ => chained_alone hcl (hch i j oi oj hi hoj q1 q2 (Ne.symm hji)) hr hj
      have hiall : ∀ e ∈ oi.after, Region.binds .any e = true → listed.getD e.on false = true := by
        obtain ⟨_, oi', hoi', hall'⟩ := mem_ready.1 hr
        rw [hi] at hoi'; cases hoi'
        exact hall'
      have h2 := qStep_app hi hoj hqj hnwj hnsi hcl (hsto j oj hoj) (Ne.symm hji) hiall hall (hfree j oj hoj hji hjun hnot) hdd hiun hjun hna hI hF hy h1
      have hfree' : ∀ (k : Nat) (ok : Oper), ops[k]? = some ok → k ≠ i → (listed.setIfInBounds j true).getD k true = false →
          (∀ e ∈ ok.after, Region.binds .any e = true → e.on ≠ i) → oi.apart ops ok = true := fun k ok hk hki hun hno => by
        refine hfree k ok hk hki ?_ hno
        by_cases hjk : j = k
        · subst hjk; exact hjun
        · rw [getD_set_ne true hjk] at hun; exact hun
      have hnw' : newB oi = true → ∀ (k : Nat) (ok : Oper), ops[k]? = some ok → k ≠ i → (listed.setIfInBounds j true).getD k true = false → newB ok = true ∨ ancB ops ops.size k i = true := fun hn k ok hk hki hun => by
        refine hnw hn k ok hk hki ?_
        by_cases hjk : j = k
        · subst hjk; exact hjun
        · rw [getD_set_ne true hjk] at hun; exact hun
      refine qStep_mono (fun st' h3 => ih (listed.setIfInBounds j true) st' (hcl.step hj) hfree' hnw' (ready_mono hr (Ne.symm hji)) h3.1 h3.2.1 h3.2.2.1 ?_) h2
      rw [Array.setIfInBounds_comm _ _ hji]
      exact h3.2.2.2
theorem opVC_eff {o : Oper} {st : St} {K : St → Prop} (hd : dstOK n' o = true) (hq : hardOp o = false) (h : opVC P true o st K) : ∃ G : Ef, G.can P o st.box st ∧ K (G.app o.dst st) := by
  have hsb : stoO o = false := by
    unfold stoO
    unfold hardOp at hq
    split <;> simp_all
  have hnb : newB o = false := by
    unfold newB
    unfold hardOp at hq
    split <;> simp_all
  replace h : opVC0 P true o st K := by
    rcases h with h | ⟨h, _⟩
    · exact h
    · cases h
  unfold opVC0 at h
  split at h
  · rename_i ho; simp [hardOp, ho] at hq
  · rename_i ho; simp [hardOp, ho] at hq
  · rename_i ho; simp [hardOp, ho] at hq
  · rename_i args tys ho
    split at h
    · rename_i ss x t u ha ht
      obtain ⟨v, tk, e, h1, h2⟩ := appendVC_R h
      exact ⟨.cl v tk e, .inr ⟨ss, x, t, u, args, tys, ho, ha, ht, h1⟩, by rw [Ef.app_cl]; exact h2⟩
    · exact h.elim
  · rename_i ho; simp [hardOp, ho] at hq
  · rename_i ho; simp [hardOp, ho] at hq
  · rename_i f args tys ho
    unfold callAVC at h
    split at h
    · rename_i g first cap hf
      rcases h with ⟨h1, h2, res, h3, h4⟩ | ⟨h, _⟩
      · exact ⟨.put res, ⟨⟨by simp [newB, ho], hsb⟩, none, qv_call ho hf h1 h2 h3⟩, by rw [Ef.app_put]; exact h4⟩
      · cases h
    · exact h.elim
  · obtain ⟨v, tk, q1, q2, q3⟩ := valVC_sound (dstOK_small hd) h
    unfold putV at q3
    rcases q1 with ⟨hc, fr, hv, ht⟩ | ⟨hc, x, hx, rfl, rfl⟩
    · rw [hc] at q3
      simp only [cond_false] at q3
      cases tk with
      | none => exact ⟨.put v, ⟨⟨hnb, hsb⟩, fr, hv⟩, by rw [Ef.app_put]; exact q3⟩
      | some te =>
        obtain ⟨t, e⟩ := te
        obtain ⟨r0, r1, r2⟩ := q2 rfl hc t e rfl
        have := ht t e rfl
        subst this
        exact ⟨.cl v t e, .inl ⟨r0, r1, r2, hv⟩, by rw [Ef.app_cl]; exact q3⟩
    · rw [hc] at q3
      exact ⟨.copy x, hx, by rw [Ef.app_copy]; exact q3⟩
theorem opVC_new {o : Oper} {st : St} {K : St → Prop} (hq : newB o = true) (h : opVC P true o st K) : ∃ G : Ef, G.can P o st.box st ∧ K (G.app o.dst st) := by
  replace h : opVC0 P true o st K := by
    rcases h with h | ⟨h, _⟩
    · exact h
    · cases h
  unfold opVC0 at h
  split at h
  · rename_i e x ho
    obtain ⟨h0, h1, h2, h3⟩ := h
    obtain ⟨n, hn⟩ := Option.isSome_iff_exists.1 h1
    refine ⟨.new st.nb ⟨(st.eval x).cellsL, e⟩, ⟨hq, h2, st.eval x, n, hn, rfl, h0, .inl ⟨x, ho, rfl⟩⟩, ?_⟩
    rw [Ef.app_new]; exact h3
  · rename_i e ho
    split at h
    · rename_i v hz
      obtain ⟨h0, h1, h2, h3⟩ := h
      obtain ⟨n, hn⟩ := Option.isSome_iff_exists.1 h1
      refine ⟨.new st.nb ⟨v.cellsL, e⟩, ⟨hq, h2, v, n, hn, rfl, h0, .inr ⟨ho, hz⟩⟩, ?_⟩
      rw [Ef.app_new]; exact h3
    · exact h.elim
  all_goals (unfold newB at hq; split at hq <;> simp_all)
theorem opVC_sto {o : Oper} {st : St} {K : St → Prop} {t : TypeId} {d : Nat} {y : Operand} (ho : o.op = .store t (.tmp d) y) (h : opVC P true o st K) : ∃ G : Ef, G.can P o st.box st ∧ K (G.app o.dst st) := by
  replace h : opVC0 P true o st K := by
    rcases h with h | ⟨h, _⟩
    · exact h
    · cases h
  unfold opVC0 at h
  rw [ho] at h
  simp only at h
  unfold storeVC at h
  split at h
  · rename_i i off hx
    split at h
    · rename_i B n hB hs
      obtain ⟨h0, h1, h2, h3, h4⟩ := h
      refine ⟨.sto i _, ⟨t, d, y, n, B, off, ho, h3, hx, hB, h0, hs, h1, h2, rfl⟩, ?_⟩
      rw [h3, Ef.app_sto]; exact h4
    · exact h.elim
  · exact h.elim
theorem put_none_tok {st : St} {dst : Option Nat} {v : V} {s t : Nat} {e : TypeId} (h : (st.put dst v none).tok s = some (t, e)) : st.tok s = some (t, e) := by
  cases dst with
  | none => exact h
  | some d =>
    rw [St.tok_put] at h
    unfold upd at h
    split at h
    · cases h
    · exact h
theorem opVC_hard {o : Oper} {st : St} {K : St → Prop} (hq : hardOp o = true) (h : opVC P true o st K) : opVC P true o st fun st' => K st' ∧ ∀ s t e, st'.tok s = some (t, e) → st.tok s = some (t, e) := by
  replace h : opVC0 P true o st K := by
    rcases h with h | ⟨h, _⟩
    · exact h
    · cases h
  refine .inl ?_
  unfold opVC0 at h ⊢
  split at h
  · obtain ⟨h0, h1, h2, h3⟩ := h
    exact ⟨h0, h1, h2, h3, fun s t e ht => put_none_tok (st := st.newBox _ _) ht⟩
  · split at h
    · obtain ⟨h0, h1, h2, h3⟩ := h
      exact ⟨h0, h1, h2, h3, fun s t e ht => put_none_tok (st := st.newBox _ _) ht⟩
    · exact h.elim
  · unfold storeVC at h ⊢
    split at h
    · split at h
      · rename_i B n hB hs
        simp only [hB, hs]
        obtain ⟨h0, h1, h2, h3, h4⟩ := h
        exact ⟨h0, h1, h2, h3, h4, fun s t e ht => ht⟩
      · exact h.elim
    · exact h.elim
  · rename_i ho; simp [hardOp, ho] at hq
  · obtain ⟨h1, h2⟩ := h
    exact ⟨h1, h2, fun s t e ht => put_none_tok (st := st.newBox _ _) ht⟩
  · unfold mapPutVC at h ⊢
    split at h
    · rename_i i kt et hm hT
      split at h
      · rename_i B ag ks hB hk
        simp only [hB, hk]
        obtain ⟨h0, h1, h2, h3, h4, h5⟩ := h
        exact ⟨h0, h1, h2, h3, h4, h5, fun s t e ht => ht⟩
      · exact h.elim
    · exact h.elim
  · rename_i ho; simp [hardOp, ho] at hq
  · rename_i n1 n2 n3 n4 n5 n6 n7
    unfold hardOp at hq
    split at hq
    · rename_i ho; exact absurd ho (n1 _ _)
    · rename_i ho; exact absurd ho (n2 _)
    · rename_i ho; exact absurd ho (n3 _ _ _)
    · rename_i ho; exact absurd ho (n6 _ _ _ _)
    · rename_i t r ho
      cases r with
      | none => exact absurd ho (n5 _)
      | some x => simp only [valVC, ho] at h
    · cases hq
def pinOK' (ops : Array Oper) : Bool := (List.range ops.size).all (fun j => match ops[j]? with
  | some o => !hardOp o || pinned ops j || stoOK ops j || (newB o && (List.range ops.size).all fun k => Nat.ble k j || ancB ops ops.size k j || (match ops[k]? with | some ok => newB ok | none => true))
  | none => true) && (List.range ops.size).all fun j => (List.range ops.size).all fun k => match ops[j]?, ops[k]? with
    | some a, some b => Nat.beq j k || ((match a.dst, b.dst with | some d, some d' => !Nat.beq d d' | _, _ => true) && (!(appOp a && appOp b) || ancB ops ops.size j k || ancB ops ops.size k j))
    | _, _ => true
def lst (n k : Nat) : Array Bool := (List.range k).foldl (fun l i => l.setIfInBounds i true) (Array.replicate n false)
theorem lst_succ (n k : Nat) : (lst n k).setIfInBounds k true = lst n (k + 1) := by
  unfold lst
  rw [List.range_succ, List.foldl_append]
  rfl
theorem lst_lt (n : Nat) : ∀ (k i : Nat), i < k → (lst n k).getD i true = true
  | 0, i, h => by omega
  | k + 1, i, h => by
    rw [← lst_succ]
    by_cases q : k = i
    · subst q; exact getD_set_self _ _
    · rw [getD_set_ne true q]
      exact lst_lt n k i (by omega)
theorem lst_getD (n : Nat) : ∀ (k i : Nat), k ≤ i → (lst n k).getD i true = true → n ≤ i
  | 0, i, _, h => by
    rcases Nat.lt_or_ge i n with q | q
    · simp [lst, q] at h
    · exact q
  | k + 1, i, hk, h => by
    rw [← lst_succ, getD_set_ne true (by omega)] at h
    exact lst_getD n k i (by omega) h
def isEntry (o : Oper) : Bool := match o.op with
  | .mapEntry .. => true
  | _ => false
def entOK (ops : Array Oper) : Bool := (List.range ops.size).all fun k => match ops[k + 2]? with
  | some o => !isEntry o || (rsB ops (lst ops.size k) k && (List.range k).all fun i => ancB ops ops.size k i && ancB ops ops.size (k + 2) i)
  | none => true
theorem entOK_spec {ops : Array Oper} (h : entOK ops = true) {k : Nat} {o : Oper} {t : TypeId} {m x : Operand} (ho : ops[k + 2]? = some o) (hm : o.op = .mapEntry t m x) : rsB ops (lst ops.size k) k = true ∧ ∀ i, i < k → ancB ops ops.size k i = true ∧ ancB ops ops.size (k + 2) i = true := by
  unfold entOK at h
  rw [List.all_eq_true] at h
  have hlt := (Array.getElem?_eq_some_iff.1 ho).1
  have := h k (by rw [List.mem_range]; omega)
  rw [ho] at this
  simp only [isEntry, hm, Bool.not_true, Bool.false_or, Bool.and_eq_true, List.all_eq_true, List.mem_range] at this
  exact this
def pinOK (ops : Array Oper) : Bool := entOK ops && pinOK' ops
theorem pinOK.ent {ops : Array Oper} (h : pinOK ops = true) : entOK ops = true := by
  unfold pinOK at h
  rw [Bool.and_eq_true] at h
  exact h.1
theorem pinOK_spec {ops : Array Oper} (h : pinOK ops = true) : (∀ (j : Nat) (oj : Oper), ops[j]? = some oj → hardOp oj = true → pinned ops j = true ∨ stoOK ops j = true ∨ (newB oj = true ∧ ∀ (k : Nat) (ok : Oper), ops[k]? = some ok → j < k → newB ok = true ∨ ancB ops ops.size k j = true)) ∧
    (∀ (j k : Nat) (a b : Oper), ops[j]? = some a → ops[k]? = some b → appOp a = true → appOp b = true → j ≠ k → chained ops j k) ∧
    (∀ (j k : Nat) (a b : Oper) (d : Nat), ops[j]? = some a → ops[k]? = some b → a.dst = some d → b.dst = some d → j = k) := by
  unfold pinOK at h
  rw [Bool.and_eq_true] at h
  replace h := h.2
  unfold pinOK' at h
  rw [Bool.and_eq_true, List.all_eq_true, List.all_eq_true] at h
  have key : ∀ (j k : Nat) (a b : Oper), ops[j]? = some a → ops[k]? = some b → j ≠ k → (∀ d, a.dst = some d → b.dst ≠ some d) ∧ (appOp a = true → appOp b = true → chained ops j k) := by
    intro j k a b ha hb hne
    have := h.2 j (by simpa using (Array.getElem?_eq_some_iff.1 ha).1)
    rw [List.all_eq_true] at this
    have := this k (by simpa using (Array.getElem?_eq_some_iff.1 hb).1)
    rw [ha, hb] at this
    simp only [Bool.or_eq_true, Bool.and_eq_true] at this
    rcases this with this | ⟨t1, t2⟩
    · exact absurd (Nat.eq_of_beq_eq_true this) hne
    refine ⟨fun d q1 q2 => ?_, fun q1 q2 => ?_⟩
    · rw [q1, q2] at t1
      simp at t1
    · simp only [q1, q2, Bool.and_self, Bool.not_true, Bool.false_eq_true, false_or] at t2
      exact t2
  refine ⟨fun j oj hj hq => ?_, fun j k a b ha hb q1 q2 hne => (key j k a b ha hb hne).2 q1 q2, fun j k a b d ha hb q1 q2 => ?_⟩
  · have := h.1 j (by simpa using (Array.getElem?_eq_some_iff.1 hj).1)
    rw [hj] at this
    simp only [hq, Bool.not_true, Bool.false_or, Bool.or_eq_true, Bool.and_eq_true, List.all_eq_true, List.mem_range] at this
    rcases this with (this | this) | ⟨h1, h2⟩
    · exact .inl this
    · exact .inr (.inl this)
    · refine .inr (.inr ⟨h1, fun k ok hk hjk => ?_⟩)
      have h3 := h2 k (Array.getElem?_eq_some_iff.1 hk).1
      rw [hk] at h3
      rcases h3 with (h3 | h3) | h3
      · have := Nat.le_of_ble_eq_true h3; omega
      · exact .inr h3
      · exact .inl h3
  · apply Classical.byContradiction
    intro hne
    exact (key j k a b ha hb hne).1 d q1 q2
theorem sAny_lex {ops : Array Oper} {K : St → Prop} (hpin : pinOK ops = true) : ∀ (l : List Oper) (k : Nat) (listed : Array Bool) (st : St), listed = lst ops.size k → (∀ j, l[j]? = ops[k + j]?) → Cl ops listed → Inv ops listed st → l.all (dstOK n') = true →
    Region.lexFrom .any ops l.length k listed = true → opsVC P true (ops.toList.map (·.dst)) l st K → sAny P n' ops K l.length listed st
  | [], _, _, _, _, _, _, _, _, hB, h => ⟨by simpa [Region.lexFrom] using hB, h⟩
  | o :: l, k, listed, st, hlst, hl, hcl, hI, hall, hB, h => by
    have hlst' : listed.setIfInBounds k true = lst ops.size (k + 1) := by rw [hlst, lst_succ]
    have h0 : ops[k]? = some o := by simpa using (hl 0).symm
    simp only [List.length_cons, Region.lexFrom, Bool.and_eq_true] at hB
    obtain ⟨⟨hr, hf⟩, hB'⟩ := hB
    simp only [List.all_cons, Bool.and_eq_true] at hall
    have hr' : k ∈ Region.ready .any ops listed := by simpa using hr
    have hl' : ∀ j, l[j]? = ops[k + 1 + j]? := fun j => by have := hl (j + 1); simpa [Nat.add_assoc, Nat.add_comm 1 j] using this
    simp only [opsVC] at h
    obtain ⟨p1, p2, p3⟩ := pinOK_spec hpin
    rcases h with h | ⟨_, o3, o4, o5, o6, rfl, hv⟩
    rotate_left
    · have g3 : ops[k + 1]? = some o3 := by simpa using (hl' 0).symm
      have g4 : ops[k + 2]? = some o4 := by simpa using (hl' 1).symm
      have g5 : ops[k + 3]? = some o5 := by simpa using (hl' 2).symm
      have g6 : ops[k + 4]? = some o6 := by simpa using (hl' 3).symm
      have hsz : ops.size = k + 5 := by
        have h1 := (Array.getElem?_eq_some_iff.1 g6).1
        have h2 : ops[k + 5]? = none := by simpa using (hl' 4).symm
        have h3 := Array.getElem?_eq_none_iff.1 h2
        omega
      obtain ⟨t, kt, et, xT, yT, op, m, x, d2, d3, d4, d5, ag, ks, i, B, ik, n, c, y, zv, ⟨_, _, ⟨p4, _⟩, _⟩, _⟩ := id hv
      obtain ⟨r1, r2⟩ := entOK_spec (pinOK.ent hpin) g4 p4
      exact .inr ⟨k, o, o3, o4, o5, o6, hsz, rfl, h0, g3, g4, g5, g6, hv, by rw [hlst]; exact r1, r2, fun i hi hu => by rw [hlst] at hu; exact lst_getD _ _ _ hi hu⟩
    have hsto : ∀ (j : Nat) (oj : Oper), ops[j]? = some oj → stoO oj = true → ¬ pinned ops j = true → stoOK ops j = true := fun j oj hj hs hp => by
      have hh : hardOp oj = true := sto_hard hs
      rcases p1 j oj hj hh with q | q | ⟨q, _⟩
      · exact absurd q hp
      · exact q
      · rw [new_nsto q] at hs; cases hs
    have hun : ∀ m, k < m → m < ops.size → listed.getD m true = false := fun m hm hms => by
      cases hl : listed.getD m true with
      | false => rfl
      | true => rw [hlst] at hl; have := lst_getD _ _ _ (by omega) hl; omega
    have hFr : Fresh ops k st.box listed st := ⟨fun _ _ h => h, fun m om d hom _ _ _ hkm hl => (by
      rw [hun m hkm (Array.getElem?_eq_some_iff.1 hom).1] at hl; cases hl)⟩
    cases hq : hardOp o with
    | false =>
      have hnso : stoO o = false := soft_sto hq
      have hst : ∃ G : Ef, YldE P ops o G st.box st ∧ opsVC P true (ops.toList.map (·.dst)) l (G.app o.dst st) K := by
        rcases gdVC_iff.1 h with ⟨hg, h⟩ | ⟨hg, h⟩
        · obtain ⟨G, q1, q2⟩ := opVC_eff hall.1 hq h
          exact ⟨G, .inl ⟨hg, q1⟩, q2⟩
        · exact ⟨.put .un, .inr ⟨hg, rfl⟩, by rw [Ef.app_put]; exact h⟩
      obtain ⟨G, hy, hK⟩ := hst
      exact sAny_first h0 hnso hsto p2 p3 l.length listed st hcl (Region.free_spec h0 hf) (fun hn => (by
        rw [soft_new hq] at hn; cases hn)) hr' hI hFr hy (sAny_lex hpin l (k + 1) _ _ hlst' hl' (hcl.step hr') (hI.step p3 h0 hy) hall.2 hB' hK)
    | true =>
      by_cases hpk : pinned ops k = true
      rotate_left
      · rcases (p1 k o h0 hq).resolve_left hpk with hsk | ⟨hnb, hlater⟩
        · obtain ⟨t, d, y, m, om, r1, r2, r3, r4, r5, r6, r7, r8⟩ := stoOK_spec h0 hsk
          have hg : gdB (ops.toList.map (·.dst)) st o.guard = some true := by rw [r2]; rfl
          have hv : opVC P true o st fun st' => opsVC P true (ops.toList.map (·.dst)) l st' K := by
            rcases gdVC_iff.1 h with ⟨_, h⟩ | ⟨hg', _⟩
            · exact h
            · rw [hg] at hg'; cases hg'
          obtain ⟨G, q1, q2⟩ := opVC_sto r1 hv
          have hy : YldE P ops o G st.box st := .inl ⟨hg, q1⟩
          refine .inl ⟨fun h => (by rw [h] at hr'; cases hr'), fun j hj => ?_⟩
          have hjk : j = k := by
            obtain ⟨ju, oj, hoj, aj⟩ := mem_ready.1 hj
            obtain ⟨ku, ok', hok', ak⟩ := mem_ready.1 hr'
            have hjk' : ¬ j < k := fun q => by
              have : (lst ops.size k).getD j true = true := lst_lt ops.size k j q
              rw [← hlst, ju] at this; cases this
            rcases r8 j (Array.getElem?_eq_some_iff.1 hoj).1 with e | ⟨e, _⟩ | ⟨_, e⟩
            · exact e
            · exact absurd e hjk'
            · have hl := anc_listed hcl _ j e fun oj' ho' e he hb => by rw [hoj] at ho'; cases ho'; exact aj e he hb
              rw [unlisted_of ku] at hl; cases hl
          subst hjk
          unfold qStep
          rw [h0]
          exact .inl ⟨G, hy, sAny_lex hpin l (j + 1) _ _ hlst' hl' (hcl.step hr') (hI.step p3 h0 hy) hall.2 hB' q2⟩
        have hnso : stoO o = false := new_nsto hnb
        have hst : ∃ G : Ef, YldE P ops o G st.box st ∧ opsVC P true (ops.toList.map (·.dst)) l (G.app o.dst st) K := by
          rcases gdVC_iff.1 h with ⟨hg, h⟩ | ⟨hg, h⟩
          · obtain ⟨G, q1, q2⟩ := opVC_new hnb h
            exact ⟨G, .inl ⟨hg, q1⟩, q2⟩
          · exact ⟨.put .un, .inr ⟨hg, rfl⟩, by rw [Ef.app_put]; exact h⟩
        obtain ⟨G, hy, hK⟩ := hst
        refine sAny_first h0 hnso hsto p2 p3 l.length listed st hcl (Region.free_spec h0 hf) (fun _ j oj hoj hji hun => ?_) hr' hI hFr hy (sAny_lex hpin l (k + 1) _ _ hlst' hl' (hcl.step hr') (hI.step p3 h0 hy) hall.2 hB' hK)
        refine hlater j oj hoj ?_
        rcases Nat.lt_or_ge k j with q | q
        · exact q
        · exfalso
          have hjk : j < k := by omega
          have : (lst ops.size k).getD j true = true := lst_lt ops.size k j hjk
          rw [← hlst, hun] at this
          cases this
      refine .inl ⟨fun h => (by rw [h] at hr'; cases hr'), fun j hj => ?_⟩
      have hjk := pinned_alone hcl hpk hj hr'
      subst hjk
      have hsub : ∀ st', (∀ s t e, st'.tok s = some (t, e) → st.tok s = some (t, e)) → Inv ops (listed.setIfInBounds j true) st' := by
        intro st' hs i oi d hoi hli hno hd s t e ht h2
        have hij : j ≠ i := by
          rintro rfl
          rw [getD_set_self] at hli; cases hli
        rw [getD_set_ne true hij] at hli
        exact hI i oi d hoi hli hno hd s t e (hs s t e ht) h2
      unfold qStep
      rw [h0]
      rcases gdVC_iff.1 h with ⟨hg, h⟩ | ⟨hg, h⟩
      · exact .inr ⟨⟨hq, hpk⟩, hg, (opVC_sound hall.1 (opVC_hard hq h)).mono fun st' hk => sAny_lex hpin l (j + 1) _ st' hlst' hl' (hcl.step hr') (hsub st' hk.2) hall.2 hB' hk.1⟩
      · refine .inl ⟨.put .un, .inr ⟨hg, rfl⟩, ?_⟩
        rw [Ef.app_put]
        exact sAny_lex hpin l (j + 1) _ _ hlst' hl' (hcl.step hr') (hsub _ fun s t e ht => put_none_tok ht) hall.2 hB' h
end
end Go.Eng
