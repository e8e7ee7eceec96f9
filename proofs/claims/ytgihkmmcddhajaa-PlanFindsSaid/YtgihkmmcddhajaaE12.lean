import Derived.Test.YtgihkmmcddhajaaE11
namespace Go.Eng
set_option linter.unusedSimpArgs false
set_option linter.unusedVariables false
open Go.RowKit

/-- A guarded operation is carried out if the Bool of its guard's slot is as wanted. -/
def gdVC (ds : List (Option Nat)) (st : St) (g : Option (Nat × Bool)) (A B : Prop) : Prop :=
  match g with
  | none => A
  | some (j, want) => match ds[j]? with
    | some (some d) => (match st.env d with
      | .bool b => brVC (b == want) A B
      | .un => B
      | _ => False)
    | _ => B

/-- The operations of a region, in the order of the text. -/
def opsVC (P : Program) (dr : Bool) (ds : List (Option Nat)) : List Oper → St → (St → Prop) → Prop
  | [], st, K => K st
  | o :: os, st, K => gdVC ds st o.guard (opVC P dr o st fun st' => opsVC P dr ds os st' K) (opsVC P dr ds os (st.put o.dst .un none) K)

def gdB (ds : List (Option Nat)) (st : St) (g : Option (Nat × Bool)) : Option Bool :=
  match g with
  | none => some true
  | some (j, want) => match ds[j]? with
    | some (some d) => (match st.env d with
      | .bool b => some (b == want)
      | .un => some false
      | _ => none)
    | _ => some false

theorem brVC_iff (b : Bool) (A B : Prop) : brVC b A B ↔ (b = true ∧ A) ∨ (b = false ∧ B) := by
  cases b <;> simp [brVC]

theorem gdVC_iff {ds : List (Option Nat)} {st : St} {g : Option (Nat × Bool)} {A B : Prop} : gdVC ds st g A B ↔ ((gdB ds st g = some true ∧ A) ∨ (gdB ds st g = some false ∧ B)) := by
  cases g with
  | none => simp [gdVC, gdB]
  | some jw =>
    obtain ⟨j, want⟩ := jw
    simp only [gdVC, gdB]
    cases hd : ds[j]? with
    | none => simp
    | some od =>
      cases od with
      | none => simp
      | some d =>
        simp only
        cases he : st.env d <;> simp [brVC_iff]

section
variable {P : Program} {n' : Nat} {dr : Bool}

theorem wanted_of {F : Fr} {st : St} {a : Act} {w : World} {pr : Nat → Nat → Prop} {lam : Nat → Option Nat} {ops : Array Oper} {o : Oper} {b : Bool} (h : SRel P F st a w pr lam) (hg : gdB (ops.toList.map (·.dst)) st o.guard = some b) :
    Region.wanted o (yielded ops a.tmps) = b := by
  unfold gdB at hg
  unfold Region.wanted
  split at hg
  · rename_i hq; rw [hq]; simpa using hg
  · rename_i j want hq
    rw [hq]
    simp only
    split at hg
    · rename_i d hd
      have hd' : (ops[j]?).bind (·.dst) = some d := by
        rw [List.getElem?_map, Array.getElem?_toList] at hd
        cases ho : ops[j]? with
        | none => rw [ho] at hd; simp at hd
        | some o' => rw [ho] at hd; simpa using hd
      have hr := h.env d
      have hget : ∀ v, a.tmps.getD d undef = v → v ≠ undef → a.tmps[d]? = some v := by
        intro v hv hne
        by_cases hlt : d < a.tmps.size
        · rw [← hv]; simp [hlt]
        · exfalso; apply hne; rw [← hv]; simp [Array.getElem?_eq_none (by omega : a.tmps.size ≤ d)]
      split at hg
      · rename_i b' hb'
        rw [hb'] at hr
        simp only [R] at hr
        have := hget _ hr (by simp [undef])
        simp only [yielded, hd', Option.bind_some, this]
        simpa using hg
      · rename_i hb'
        rw [hb'] at hr
        simp only [R] at hr
        have hy : yielded ops a.tmps j = none := by
          simp only [yielded, hd', Option.bind_some]
          by_cases hlt : d < a.tmps.size
          · have : a.tmps[d]? = some undef := by rw [← hr]; simp [hlt]
            rw [this]; rfl
          · rw [Array.getElem?_eq_none (by omega)]
        rw [hy]
        simpa using hg
      · cases hg
    · rename_i hd
      have hy : yielded ops a.tmps j = none := by
        unfold yielded
        rw [List.getElem?_map, Array.getElem?_toList] at hd
        cases ho : ops[j]? with
        | none => rfl
        | some o' =>
          rw [ho] at hd
          simp only [Option.bind_some]
          cases hq' : o'.dst with
          | none => rfl
          | some d => exact absurd (by rw [Option.map_some, hq']) (hd d)
      rw [hy]
      simpa using hg

theorem SRel.putUn {F : Fr} {st : St} {a : Act} {w : World} {pr : Nat → Nat → Prop} {lam : Nat → Option Nat} (h : SRel P F st a w pr lam) {dst : Option Nat} (hd : ∀ d, dst = some d → d < F.nt) :
    SRel P F (st.put dst .un none) (a.put dst undef) w pr lam := h.put hd (by simp [R]) trivial

theorem opsVC_sound {ops : Array Oper} {K : St → Prop} : ∀ (l : List Oper) (i : Nat) (st : St), (∀ j, l[j]? = ops[i + j]?) → l.all (dstOK n') = true → opsVC P dr (ops.toList.map (·.dst)) l st K →
    ∀ (F : Fr) (a : Act) (w : World) (pr : Nat → Nat → Prop) (lam : Nat → Option Nat), F.nt = n' → SRel P F st a w pr lam → ∀ Q : Exit → Act → World → Prop,
      (∀ st' a' w' pr' lam', K st' → SRel P F st' a' w' pr' lam' → Q .normal a' w') → wpOps P ops Q (List.range' i l.length) a w
  | [], i, st, _, _, h, F, a, w, pr, lam, _, hs, Q, hn => by
    simp only [List.length_nil, List.range'_zero, wpOps]
    exact hn st a w pr lam h hs
  | o :: os, i, st, hl, hall, h, F, a, w, pr, lam, hF, hs, Q, hn => by
    have h0 : ops[i]? = some o := by simpa using (hl 0).symm
    simp only [List.all_cons, Bool.and_eq_true] at hall
    have hl' : ∀ j, os[j]? = ops[i + 1 + j]? := fun j => by have := hl (j + 1); simpa [Nat.add_assoc, Nat.add_comm 1 j] using this
    simp only [List.length_cons, List.range'_succ, wpOps, h0]
    simp only [opsVC] at h
    rcases gdVC_iff.1 h with ⟨hg, h⟩ | ⟨hg, h⟩
    · rw [wanted_of hs hg]
      simp only [if_true]
      left
      exact opVC_sound hall.1 h F a w pr lam hF hs _ _ fun st' a' w' pr' lam' hk hs' => opsVC_sound os (i + 1) st' hl' hall.2 hk F a' w' pr' lam' hF hs' Q hn
    · rw [wanted_of hs hg]
      simp only [Bool.false_eq_true, if_false]
      exact opsVC_sound os (i + 1) _ hl' hall.2 h F _ w pr lam hF (hs.putUn (by rw [hF]; exact dstOK_spec hall.1)) Q hn

/-! A region that draws its order, all of whose operations are quiet -/

theorem QVT.congr {o : Oper} {ρ ρ' : Operand → V} {τ τ' : Operand → Option (Nat × TypeId)} {bx : Nat → Option Box} {v : V} {tk : Option (Nat × TypeId)} (h : QVT P o ρ τ bx v tk)
    (he : ∀ x ∈ o.op.operands, ρ' x = ρ x ∧ τ' x = τ x) : QVT P o ρ' τ' bx v tk := by
  rcases h with ⟨fr, hq, ht⟩ | ⟨x, hx, rfl, rfl⟩
  · refine .inl ⟨fr, fun a w pr lam h1 h2 => hq a w pr lam h1 fun x hx => ?_, ht⟩
    rw [← (he x hx).1]; exact h2 x hx
  · have hm : x ∈ o.op.operands := by rcases hx with hx | hx <;> simp [hx, Op.operands]
    exact .inr ⟨x, hx, ((he x hm).1).symm, ((he x hm).2).symm⟩

theorem put_comm (st : St) {x y : Option Nat} (v u : V) (tv tu : Option (Nat × TypeId)) (h : ∀ d, x = some d → y ≠ some d) : (st.put x v tv).put y u tu = (st.put y u tu).put x v tv := by
  cases x with
  | none => rfl
  | some d =>
    cases y with
    | none => rfl
    | some e =>
      have hne : d ≠ e := fun hde => h d rfl (by rw [hde])
      simp only [St.put]
      congr 1
      funext s
      simp only [upd]
      by_cases h1 : s = d
      · have h2 : ¬ s = e := fun h2 => hne (h1.symm.trans h2)
        rw [if_neg h2, if_pos h1, if_pos h1]
      · rw [if_neg h1]
        by_cases h2 : s = e
        · rw [if_pos h2, if_neg h1]
        · rw [if_neg h2, if_neg h1]

theorem put_eval {st : St} {dst : Option Nat} {v : V} {tk : Option (Nat × TypeId)} {ops : Array Oper} {o : Oper} (h : ∀ d, dst = some d → d ∉ o.looksAt ops) :
    (∀ x ∈ o.op.operands, (st.put dst v tk).eval x = st.eval x ∧ (st.put dst v tk).tokOf x = st.tokOf x) ∧ gdB (ops.toList.map (·.dst)) (st.put dst v tk) o.guard = gdB (ops.toList.map (·.dst)) st o.guard := by
  cases dst with
  | none => exact ⟨fun _ _ => ⟨rfl, rfl⟩, rfl⟩
  | some d =>
    have hd := h d rfl
    simp only [Oper.looksAt, List.mem_append, not_or] at hd
    constructor
    · intro x hx
      cases x with
      | tmp t =>
        have hne : t ≠ d := by
          rintro rfl
          apply hd.1
          rw [List.mem_filterMap]
          exact ⟨.tmp t, by simpa using hx, rfl⟩
        simp only [St.eval, St.tokOf, St.env_put, St.tok_put, upd, if_neg hne, and_self]
      | const v => exact ⟨rfl, rfl⟩
      | global g => exact ⟨rfl, rfl⟩
      | func f => exact ⟨rfl, rfl⟩
    · unfold gdB
      cases hg : o.guard with
      | none => rfl
      | some gw =>
        obtain ⟨j, want⟩ := gw
        simp only
        cases hds : (ops.toList.map (·.dst))[j]? with
        | none => rfl
        | some od =>
          cases od with
          | none => rfl
          | some d' =>
            simp only
            have hne : d' ≠ d := by
              rintro rfl
              apply hd.2
              rw [hg]
              rw [List.getElem?_map, Array.getElem?_toList] at hds
              cases ho : ops[j]? with
              | none => rw [ho] at hds; simp at hds
              | some o' =>
                rw [ho] at hds
                simp at hds
                simp only [ho, Option.bind_some, hds]
                simp
            simp only [St.env_put, upd, if_neg hne]

theorem OpOK.mono {o : Oper} {st : St} {K K' : St → Prop} (h : OpOK P n' o st K) (hk : ∀ st, K st → K' st) : OpOK P n' o st K' :=
  fun F a w pr lam hF hs next Q hn => h F a w pr lam hF hs next Q fun st' a' w' pr' lam' k r => hn st' a' w' pr' lam' (hk st' k) r

/-- Operations that no other may pass. -/
def hardOp (o : Oper) : Bool := match o.op with
  | .box .. | .alloc _ | .store .. | .mapUpdate .. | .makeMap .. => true
  | _ => false
def appOp (o : Oper) : Bool := match o.op with
  | .call { callee := .builtin .append, .. } => true
  | _ => false

/-- i is to be done before j. -/
def ancB (ops : Array Oper) : Nat → Nat → Nat → Bool
  | 0, _, _ => false
  | fuel + 1, j, i => match ops[j]? with
    | some o => o.after.toList.any fun e => Region.binds .any e && (e.on == i || ancB ops fuel e.on i)
    | none => false

/-- All operations ahead of number k in the text are to be done before it, and all others after it. -/
def pinned (ops : Array Oper) (k : Nat) : Bool :=
  (List.range ops.size).all fun i => i == k || (if i < k then ancB ops ops.size k i else ancB ops ops.size i k)

def Cl (ops : Array Oper) (listed : Array Bool) : Prop :=
  ∀ (j : Nat) (oj : Oper), ops[j]? = some oj → listed.getD j false = true → ∀ e ∈ oj.after, Region.binds .any e = true → listed.getD e.on false = true

theorem anc_listed {ops : Array Oper} {listed : Array Bool} (hc : Cl ops listed) {i : Nat} : ∀ (fuel j : Nat), ancB ops fuel j i = true →
    (∀ oj, ops[j]? = some oj → ∀ e ∈ oj.after, Region.binds .any e = true → listed.getD e.on false = true) → listed.getD i false = true
  | 0, _, h, _ => by simp [ancB] at h
  | fuel + 1, j, h, hj => by
    simp only [ancB] at h
    split at h
    · rename_i o ho
      rw [List.any_eq_true] at h
      obtain ⟨e, he, h⟩ := h
      simp only [Bool.and_eq_true, Bool.or_eq_true, beq_iff_eq] at h
      have hl := hj o ho e (by simpa using he) h.1
      rcases h.2 with h2 | h2
      · rw [← h2]; exact hl
      · exact anc_listed hc fuel e.on h2 fun oj hoj e' he' hb' => hc e.on oj hoj hl e' he' hb'
    · cases h

theorem unlisted_of {listed : Array Bool} {i : Nat} (h : listed.getD i true = false) : listed.getD i false = false := by
  rcases Nat.lt_or_ge i listed.size with h' | h'
  · simpa [h'] using h
  · simp [Array.getElem?_eq_none h'] at h

/-- Beside a ready pinned operation no other is ready. -/
theorem pinned_alone {ops : Array Oper} {listed : Array Bool} (hc : Cl ops listed) {i j : Nat} (hp : pinned ops j = true) (hi : i ∈ Region.ready .any ops listed) (hj : j ∈ Region.ready .any ops listed) : i = j := by
  apply Classical.byContradiction
  intro hne
  obtain ⟨ui, oi, hoi, ai⟩ := mem_ready.1 hi
  obtain ⟨uj, oj, hoj, aj⟩ := mem_ready.1 hj
  unfold pinned at hp
  rw [List.all_eq_true] at hp
  have hlt : i < ops.size := (Array.getElem?_eq_some_iff.1 hoi).1
  have h := hp i (by simpa using hlt)
  simp only [Bool.or_eq_true, beq_iff_eq, hne, false_or] at h
  split at h
  · have := anc_listed hc _ j h (fun o ho e he hb => by rw [hoj] at ho; cases ho; exact aj e he hb)
    rw [unlisted_of ui] at this; cases this
  · have := anc_listed hc _ i h (fun o ho e he hb => by rw [hoi] at ho; cases ho; exact ai e he hb)
    rw [unlisted_of uj] at this; cases this

theorem Cl.step {ops : Array Oper} {listed : Array Bool} (hc : Cl ops listed) {i : Nat} (hi : i ∈ Region.ready .any ops listed) : Cl ops (listed.setIfInBounds i true) := by
  intro j oj hoj hl e he hb
  obtain ⟨ui, oi, hoi, ai⟩ := mem_ready.1 hi
  by_cases hji : j = i
  · subst hji
    rw [hoi] at hoj; cases hoj
    exact getD_set_true (ai e he hb)
  · rw [getD_set_ne false (Ne.symm hji)] at hl
    exact getD_set_true (hc j oj hoj hl e he hb)

/-- Of two appends one comes first. -/
def chained (ops : Array Oper) (i j : Nat) : Prop := ancB ops ops.size i j = true ∨ ancB ops ops.size j i = true

theorem chained_alone {ops : Array Oper} {listed : Array Bool} (hc : Cl ops listed) {i j : Nat} (hp : chained ops i j) (hi : i ∈ Region.ready .any ops listed) (hj : j ∈ Region.ready .any ops listed) : False := by
  obtain ⟨ui, oi, hoi, ai⟩ := mem_ready.1 hi
  obtain ⟨uj, oj, hoj, aj⟩ := mem_ready.1 hj
  rcases hp with h | h
  · have := anc_listed hc _ i h (fun o ho e he hb => by rw [hoi] at ho; cases ho; exact ai e he hb)
    rw [unlisted_of uj] at this; cases this
  · have := anc_listed hc _ j h (fun o ho e he hb => by rw [hoj] at ho; cases ho; exact aj e he hb)
    rw [unlisted_of ui] at this; cases this

/-! What an operation does to the state -/

inductive Ef where
  | put (v : V)
  | copy (x : Operand)
  | cl (v : V) (t : Nat) (e : TypeId)

def Ef.val (st : St) : Ef → V
  | .put v => v
  | .copy x => st.eval x
  | .cl v _ _ => v
def Ef.tk (st : St) : Ef → Option (Nat × TypeId)
  | .put _ => none
  | .copy x => st.tokOf x
  | .cl _ t e => some (t, e)
def Ef.c : Ef → Option Nat
  | .cl _ t _ => some t
  | _ => none

def clT (c : Option Nat) (tk : Option (Nat × TypeId)) : Option (Nat × TypeId) := match c with
  | none => tk
  | some t => (clr t (.any, tk)).2

def Ef.app (G : Ef) (dst : Option Nat) (st : St) : St :=
  { st with sl := fun s => if dst = some s then (G.val st, G.tk st) else ((st.sl s).1, clT G.c (st.sl s).2) }

theorem clT_none (c : Option Nat) : clT c none = none := by cases c <;> rfl

theorem clT_comm (c d : Option Nat) (tk : Option (Nat × TypeId)) : clT c (clT d tk) = clT d (clT c tk) := by
  cases c with
  | none => rfl
  | some c =>
    cases d with
    | none => rfl
    | some d =>
      cases tk with
      | none => rfl
      | some te =>
        obtain ⟨t, e⟩ := te
        simp only [clT, clr]
        by_cases h1 : t = c ∨ t = c + 3000000 <;> by_cases h2 : t = d ∨ t = d + 3000000 <;> simp [h1, h2]

theorem clT_some {c : Option Nat} {tk : Option (Nat × TypeId)} {t : Nat} {e : TypeId} (h : clT c tk = some (t, e)) : tk = some (t, e) := by
  cases c with
  | none => exact h
  | some c =>
    cases tk with
    | none => cases h
    | some te =>
      obtain ⟨t', e'⟩ := te
      simp only [clT, clr] at h
      split at h
      · cases h
      · exact h

theorem clT_keep {c : Option Nat} {t : Nat} {e : TypeId} (ht : tcl t < 2) (h : ∀ t', c = some t' → t ≠ t') : clT c (some (t, e)) = some (t, e) := by
  cases c with
  | none => rfl
  | some c =>
    simp only [clT, clr]
    rw [if_neg]
    rintro (q | q)
    · exact h c rfl q
    · subst q
      unfold tcl at ht
      omega

theorem Ef.app_put (v : V) (dst : Option Nat) (st : St) : (Ef.put v).app dst st = st.put dst v none := by
  cases dst with
  | none => simp [Ef.app, Ef.c, clT, St.put]
  | some d =>
    simp only [Ef.app, Ef.c, clT, St.put, Ef.val, Ef.tk, Option.some.injEq]
    congr 1
    funext s
    simp only [upd]
    by_cases h : s = d
    · subst h; simp
    · rw [if_neg (fun q => h q.symm), if_neg h]

theorem Ef.app_copy (x : Operand) (dst : Option Nat) (st : St) : (Ef.copy x).app dst st = st.put dst (st.eval x) (st.tokOf x) := by
  cases dst with
  | none => simp [Ef.app, Ef.c, clT, St.put]
  | some d =>
    simp only [Ef.app, Ef.c, clT, St.put, Ef.val, Ef.tk, Option.some.injEq]
    congr 1
    funext s
    simp only [upd]
    by_cases h : s = d
    · subst h; simp
    · rw [if_neg (fun q => h q.symm), if_neg h]

theorem Ef.app_cl (v : V) (t : Nat) (e : TypeId) (dst : Option Nat) (st : St) : (Ef.cl v t e).app dst st = (st.clear t).put dst v (some (t, e)) := by
  cases dst with
  | none => simp [Ef.app, Ef.c, clT, St.put, St.clear, clr]
  | some d =>
    simp only [Ef.app, Ef.c, clT, St.put, Ef.val, Ef.tk, Option.some.injEq, St.clear]
    congr 1
    funext s
    simp only [upd]
    by_cases h : s = d
    · subst h; simp
    · rw [if_neg (fun q => h q.symm), if_neg h]; rfl

theorem Ef.comm {Gi Gj : Ef} {di dj : Option Nat} {st : St} (hd : ∀ d, di = some d → dj ≠ some d) (hvi : Gi.val (Gj.app dj st) = Gi.val st) (hvj : Gj.val (Gi.app di st) = Gj.val st)
    (hti : Gi.tk (Gj.app dj st) = clT Gj.c (Gi.tk st)) (htj : Gj.tk (Gi.app di st) = clT Gi.c (Gj.tk st)) : Gj.app dj (Gi.app di st) = Gi.app di (Gj.app dj st) := by
  unfold Ef.app at *
  simp only at *
  congr 1
  funext s
  by_cases h1 : di = some s
  · have h2 : ¬ dj = some s := hd s h1
    simp only [h1, h2, if_true, if_false]
    rw [hvi, hti]
  · by_cases h2 : dj = some s
    · simp only [h1, h2, if_true, if_false]
      rw [hvj, htj]
    · simp only [h1, h2, if_false]
      rw [clT_comm]

/-- What an append does. -/
def appendR (P : Program) (rv : V) (tok : Option (Nat × TypeId)) (x : V) (t u : TypeId) (v : V) (tk : Nat) (e : TypeId) : Prop :=
  match rv, tok, sliceT P t with
  | .list rows, some (tk', e0), some e' => (match sizeT P e0, bytesT P e0, zeroT P e0 with
    | some sz, some by', some zv => (tk' = tk ∧ e0 = e) ∧ (e0 = e' ∧ tcl tk' < 2 ∧ srcT P u = true ∧ zv.csize = some sz ∧ by' ≠ 0) ∧ rowsOK sz rows ∧ (match x with
      | .list rows2 => rowsOK sz rows2 ∧ (rows.length + rows2.length) * by' ≤ 140737488355328 ∧ v = .list (rows ++ rows2)
      | .str l => sz = 1 ∧ (rows.length + l.length) * by' ≤ 140737488355328 ∧ v = .list (rows ++ bytesV l)
      | _ => False)
    | _, _, _ => False)
  | _, _, _ => False

theorem appendVC_R {st : St} {ss : Nat} {x : V} {t u : TypeId} {dst : Option Nat} {K : St → Prop} (h : appendVC P st ss x t u dst K) :
    ∃ v tk e, appendR P (st.env ss) (st.tok ss) x t u v tk e ∧ K ((st.clear tk).put dst v (some (tk, e))) := by
  unfold appendVC at h
  split at h
  · rename_i rows tk e e' h1 h2 h3
    split at h
    · rename_i sz by' zv h4 h5 h6
      obtain ⟨q1, q2, q3⟩ := h
      split at q3
      · obtain ⟨q3, q4, q5⟩ := q3
        refine ⟨_, tk, e, ?_, q5⟩
        unfold appendR
        rw [h1, h2, h3]
        simp only [h4, h5, h6]
        exact ⟨⟨trivial, trivial⟩, q1, q2, q3, q4, trivial⟩
      · obtain ⟨q3, q4, q5⟩ := q3
        refine ⟨_, tk, e, ?_, q5⟩
        unfold appendR
        rw [h1, h2, h3]
        simp only [h4, h5, h6]
        exact ⟨⟨trivial, trivial⟩, q1, q2, q3, q4, trivial⟩
      · exact q3.elim
    · exact h.elim
  · exact h.elim

theorem appendR_VC {st : St} {ss : Nat} {x : V} {t u : TypeId} {dst : Option Nat} {K : St → Prop} {v : V} {tk : Nat} {e : TypeId} (h : appendR P (st.env ss) (st.tok ss) x t u v tk e) (hk : K ((st.clear tk).put dst v (some (tk, e)))) :
    appendVC P st ss x t u dst K := by
  unfold appendR at h
  split at h
  · rename_i rows tk' e0 e' h1 h2 h3
    split at h
    · rename_i sz by' zv h4 h5 h6
      obtain ⟨⟨rfl, rfl⟩, q1, q2, q3⟩ := h
      unfold appendVC
      rw [h1, h2, h3]
      simp only [h4, h5, h6]
      refine ⟨q1, q2, ?_⟩
      split at q3
      · obtain ⟨q3, q4, rfl⟩ := q3
        exact ⟨q3, q4, hk⟩
      · obtain ⟨q3, q4, rfl⟩ := q3
        exact ⟨q3, q4, hk⟩
      · exact q3.elim
    · exact h.elim
  · exact h.elim

theorem appendR_tok {rv : V} {tok : Option (Nat × TypeId)} {x : V} {t u : TypeId} {v : V} {tk : Nat} {e : TypeId} (h : appendR P rv tok x t u v tk e) : tok = some (tk, e) ∧ tcl tk < 2 := by
  unfold appendR at h
  split at h
  · split at h
    · obtain ⟨⟨rfl, rfl⟩, q1, _⟩ := h
      exact ⟨rfl, q1.2.1⟩
    · exact h.elim
  · exact h.elim

/-- It can be done, and does that. -/
def Ef.can (P : Program) (o : Oper) (st : St) : Ef → Prop
  | .put v => ∃ fr, QV P o st.eval st.box v fr
  | .copy x => o.op = .move x ∨ o.op = .assign x
  | .cl v t e => (newOp o = true ∧ o.dst = some (t % 1000000) ∧ tcl t < 2 ∧ QV P o st.eval st.box v (some (tcl t, e))) ∨
      ∃ ss x ta tb args tys, o.op = .call { callee := .builtin .append, args := args, argTypes := tys } ∧ args.toList = [.tmp ss, x] ∧ tys.toList = [ta, tb] ∧ appendR P (st.env ss) (st.tok ss) (st.eval x) ta tb v t e

def YldE (P : Program) (ops : Array Oper) (o : Oper) (G : Ef) (st : St) : Prop :=
  (gdB (ops.toList.map (·.dst)) st o.guard = some true ∧ G.can P o st) ∨ (gdB (ops.toList.map (·.dst)) st o.guard = some false ∧ G = .put .un)

def qStep (P : Program) (n' : Nat) (ops : Array Oper) (i : Nat) (K : St → Prop) (st : St) : Prop :=
  match ops[i]? with
  | none => K st
  | some o => (∃ G, YldE P ops o G st ∧ K (G.app o.dst st)) ∨ (hardOp o = true ∧ gdB (ops.toList.map (·.dst)) st o.guard = some true ∧ OpOK P n' o st K)

theorem qStep_mono {ops : Array Oper} {i : Nat} {K K' : St → Prop} {st : St} (hk : ∀ st, K st → K' st) (h : qStep P n' ops i K st) : qStep P n' ops i K' st := by
  unfold qStep at *
  split
  · rename_i ho; rw [ho] at h; exact hk _ h
  · rename_i o ho
    rw [ho] at h
    rcases h with ⟨G, h1, h2⟩ | ⟨h1, h2, h3⟩
    · exact .inl ⟨G, h1, hk _ h2⟩
    · exact .inr ⟨h1, h2, h3.mono hk⟩

theorem Ef.can_ok {o : Oper} {st : St} {G : Ef} {K : St → Prop} (hd : dstOK n' o = true) (h : G.can P o st) (hk : K (G.app o.dst st)) : OpOK P n' o st K := by
  have hd' := dstOK_spec hd
  cases G with
  | put v =>
    obtain ⟨fr, h⟩ := h
    rw [Ef.app_put] at hk
    exact opok_quiet h (tk := none) (fun _ _ h => by cases h) hd' hk
  | copy x =>
    rw [Ef.app_copy] at hk
    exact opok_copy h hd' hk
  | cl v t e =>
    rw [Ef.app_cl] at hk
    rcases h with ⟨_, _, _, h⟩ | ⟨ss, x, ta, tb, args, tys, h1, h2, h3, h4⟩
    · exact opok_quiet h (tk := some (t, e)) (fun _ _ h => by cases h; rfl) hd' hk
    · refine opVC_sound (dr := true) hd (.inl ?_)
      unfold opVC0
      rw [h1]
      simp only [h2, h3]
      exact appendR_VC h4 hk

def sAny (P : Program) (n' : Nat) (ops : Array Oper) (Q : St → Prop) : Nat → Array Bool → St → Prop
  | 0, listed, st => Region.ready .any ops listed = [] ∧ Q st
  | fuel + 1, listed, st => (Region.ready .any ops listed = [] → Q st) ∧ ∀ i ∈ Region.ready .any ops listed, qStep P n' ops i (sAny P n' ops Q fuel (listed.setIfInBounds i true)) st

theorem wpAny_of_sAny {ops : Array Oper} {K : St → Prop} (hall : ∀ (i : Nat) (o : Oper), ops[i]? = some o → dstOK n' o = true) {F : Fr} (hF : F.nt = n') {Q : Exit → Act → World → Prop}
    (hn : ∀ st' a' w' pr' lam', K st' → SRel P F st' a' w' pr' lam' → Q .normal a' w') : ∀ (fuel : Nat) (listed : Array Bool) (st : St) (a : Act) (w : World) (pr : Nat → Nat → Prop) (lam : Nat → Option Nat), SRel P F st a w pr lam →
      sAny P n' ops K fuel listed st → wpAny P .any ops Q fuel listed a w
  | 0, _, st, a, w, pr, lam, hs, h => ⟨h.1, hn st a w pr lam h.2 hs⟩
  | fuel + 1, listed, st, a, w, pr, lam, hs, h => by
    refine ⟨fun h0 => hn st a w pr lam (h.1 h0) hs, fun i hi => ?_⟩
    have hq := h.2 i hi
    unfold qStep at hq
    unfold wpOp
    split
    · rename_i ho; rw [ho] at hq; exact wpAny_of_sAny hall hF hn fuel _ st a w pr lam hs hq
    · rename_i o ho
      rw [ho] at hq
      have hd := dstOK_spec (hall i o ho)
      rcases hq with ⟨G, ⟨hg, hv⟩ | ⟨hg, rfl⟩, hk⟩ | ⟨_, hg, hk⟩
      · rw [wanted_of hs hg]
        simp only [if_true]
        left
        exact Ef.can_ok (K := fun st' => sAny P n' ops K fuel (listed.setIfInBounds i true) st') (hall i o ho) hv hk F a w pr lam hF hs _ _ fun st' a' w' pr' lam' hk' hs' => wpAny_of_sAny hall hF hn fuel _ st' a' w' pr' lam' hs' hk'
      · rw [wanted_of hs hg]
        simp only [Bool.false_eq_true, if_false]
        rw [Ef.app_put] at hk
        exact wpAny_of_sAny hall hF hn fuel _ _ _ w pr lam (hs.putUn (by rw [hF]; exact hd)) hk
      · rw [wanted_of hs hg]
        simp only [if_true]
        left
        exact hk F a w pr lam hF hs _ _ fun st' a' w' pr' lam' hk' hs' => wpAny_of_sAny hall hF hn fuel _ st' a' w' pr' lam' hs' hk'

/-! Beside each other -/

theorem app_env {G : Ef} {dst : Option Nat} {st : St} {s : Nat} (h : dst ≠ some s) : (G.app dst st).env s = st.env s := by
  show (if dst = some s then _ else _ : V × Option (Nat × TypeId)).1 = _
  rw [if_neg h]; rfl
theorem app_tok {G : Ef} {dst : Option Nat} {st : St} {s : Nat} (h : dst ≠ some s) : (G.app dst st).tok s = clT G.c (st.tok s) := by
  show (if dst = some s then _ else _ : V × Option (Nat × TypeId)).2 = _
  rw [if_neg h]; rfl

theorem app_looks {dst : Option Nat} {ops : Array Oper} {o : Oper} (h : ∀ d, dst = some d → d ∉ o.looksAt ops) : ∀ s, Operand.tmp s ∈ o.op.operands → dst ≠ some s := by
  intro s hs hd
  have hd := h s hd
  simp only [Oper.looksAt, List.mem_append, not_or] at hd
  apply hd.1
  rw [List.mem_filterMap]
  exact ⟨.tmp s, by simpa using hs, rfl⟩

theorem app_eval {G : Ef} {dst : Option Nat} {st : St} {ops : Array Oper} {o : Oper} (h : ∀ d, dst = some d → d ∉ o.looksAt ops) :
    (∀ x ∈ o.op.operands, (G.app dst st).eval x = st.eval x ∧ (G.app dst st).tokOf x = clT G.c (st.tokOf x)) ∧ gdB (ops.toList.map (·.dst)) (G.app dst st) o.guard = gdB (ops.toList.map (·.dst)) st o.guard := by
  constructor
  · intro x hx
    cases x with
    | tmp t =>
      have hne := app_looks h t hx
      exact ⟨app_env hne, app_tok hne⟩
    | const v => exact ⟨rfl, (clT_none _).symm⟩
    | global g => exact ⟨rfl, (clT_none _).symm⟩
    | func f => exact ⟨rfl, (clT_none _).symm⟩
  · unfold gdB
    cases hg : o.guard with
    | none => rfl
    | some gw =>
      obtain ⟨j, want⟩ := gw
      simp only
      cases hds : (ops.toList.map (·.dst))[j]? with
      | none => rfl
      | some od =>
        cases od with
        | none => rfl
        | some d' =>
          simp only
          have hne : dst ≠ some d' := by
            intro hq
            have hd := h d' hq
            simp only [Oper.looksAt, List.mem_append, not_or] at hd
            apply hd.2
            rw [hg]
            rw [List.getElem?_map, Array.getElem?_toList] at hds
            cases ho : ops[j]? with
            | none => rw [ho] at hds; simp at hds
            | some o' =>
              rw [ho] at hds
              simp at hds
              simp only [ho, Option.bind_some, hds]
              simp
          rw [app_env hne]

theorem QV.congr {o : Oper} {ρ ρ' : Operand → V} {bx : Nat → Option Box} {v : V} {fr : Option (Nat × TypeId)} (hq : QV P o ρ bx v fr) (he : ∀ x ∈ o.op.operands, ρ' x = ρ x) : QV P o ρ' bx v fr :=
  fun a w pr lam h1 h2 => hq a w pr lam h1 fun x hx => by rw [← he x hx]; exact h2 x hx

theorem app_operands {o : Oper} {ss : Nat} {x : Operand} {args : Array Operand} {tys : Array TypeId} (h1 : o.op = .call { callee := .builtin .append, args := args, argTypes := tys }) (h2 : args.toList = [.tmp ss, x]) :
    Operand.tmp ss ∈ o.op.operands ∧ x ∈ o.op.operands := by
  obtain ⟨l⟩ := args
  simp only at h2
  subst h2
  rw [h1]
  simp [Op.operands, Call.operands]

theorem Ef.can_app {o : Oper} {ops : Array Oper} {st : St} {G Gj : Ef} {dst : Option Nat} (h : ∀ d, dst = some d → d ∉ o.looksAt ops) (hc : G.can P o st)
    (hne : ∀ v t e t', G = .cl v t e → Gj.c = some t' → t ≠ t') : G.can P o (Gj.app dst st) := by
  have he := (app_eval (G := Gj) (st := st) h).1
  cases G with
  | put v => obtain ⟨fr, hc⟩ := hc; exact ⟨fr, QV.congr hc fun x hx => (he x hx).1⟩
  | copy x => exact hc
  | cl v t e =>
    rcases hc with ⟨h0, h1, h2, h3⟩ | ⟨ss, x, ta, tb, args, tys, h1, h2, h3, h4⟩
    · exact .inl ⟨h0, h1, h2, QV.congr h3 fun x hx => (he x hx).1⟩
    · obtain ⟨m1, m2⟩ := app_operands h1 h2
      have hs := app_looks h ss m1
      obtain ⟨ht, hl⟩ := appendR_tok h4
      refine .inr ⟨ss, x, ta, tb, args, tys, h1, h2, h3, ?_⟩
      rw [app_env hs, app_tok hs, (he x m2).1, ht, clT_keep hl fun t' hq => hne v t e t' rfl hq, ← ht]
      exact h4

theorem Ef.can_back {o : Oper} {ops : Array Oper} {st : St} {G Gj : Ef} {dst : Option Nat} (h : ∀ d, dst = some d → d ∉ o.looksAt ops) (hc : G.can P o (Gj.app dst st)) : G.can P o st := by
  have he := (app_eval (G := Gj) (st := st) h).1
  cases G with
  | put v => obtain ⟨fr, hc⟩ := hc; exact ⟨fr, QV.congr hc fun x hx => ((he x hx).1).symm⟩
  | copy x => exact hc
  | cl v t e =>
    rcases hc with ⟨h0, h1, h2, h3⟩ | ⟨ss, x, ta, tb, args, tys, h1, h2, h3, h4⟩
    · exact .inl ⟨h0, h1, h2, QV.congr h3 fun x hx => ((he x hx).1).symm⟩
    · obtain ⟨m1, m2⟩ := app_operands h1 h2
      have hs := app_looks h ss m1
      obtain ⟨ht, hl⟩ := appendR_tok h4
      refine .inr ⟨ss, x, ta, tb, args, tys, h1, h2, h3, ?_⟩
      rw [app_env hs, ht, (he x m2).1] at h4
      rw [app_tok hs] at ht
      rw [clT_some ht]
      exact h4

/-- Nothing bears a token of an operation that is still to be done. -/
def Inv (ops : Array Oper) (listed : Array Bool) (st : St) : Prop :=
  ∀ (j : Nat) (oj : Oper) (d : Nat), ops[j]? = some oj → listed.getD j true = false → newOp oj = true → oj.dst = some d → ∀ s t e, st.tok s = some (t, e) → tcl t < 2 → t % 1000000 ≠ d

theorem getD_set_self (listed : Array Bool) (i : Nat) : (listed.setIfInBounds i true).getD i true = true := by
  rcases Nat.lt_or_ge i listed.size with h | h
  · simp [h]
  · simp [h]

theorem Inv.step {ops : Array Oper} {listed : Array Bool} {st : St} {i : Nat} {oi : Oper} {G : Ef} (hI : Inv ops listed st) (hdd : ∀ (j k : Nat) (a b : Oper) (d : Nat), ops[j]? = some a → ops[k]? = some b → a.dst = some d → b.dst = some d → j = k)
    (hoi : ops[i]? = some oi) (hy : YldE P ops oi G st) : Inv ops (listed.setIfInBounds i true) (G.app oi.dst st) := by
  intro j oj d hoj hl hno hdj s t e ht h2
  have hji : i ≠ j := by
    rintro rfl
    rw [getD_set_self] at hl; cases hl
  rw [getD_set_ne true hji] at hl
  by_cases hs : oi.dst = some s
  · have ht' : G.tk st = some (t, e) := by
      have : (G.app oi.dst st).tok s = G.tk st := by
        show (if oi.dst = some s then _ else _ : V × Option (Nat × TypeId)).2 = _
        rw [if_pos hs]
      rw [← this]; exact ht
    rcases hy with ⟨_, hc⟩ | ⟨_, rfl⟩
    · cases G with
      | put v => cases ht'
      | copy x =>
        cases x with
        | tmp s' => exact hI j oj d hoj hl hno hdj s' t e ht' h2
        | const v => cases ht'
        | global g => cases ht'
        | func f => cases ht'
      | cl v t' e' =>
        simp only [Ef.tk, Option.some.injEq, Prod.mk.injEq] at ht'
        obtain ⟨rfl, rfl⟩ := ht'
        rcases hc with ⟨_, h1, _, _⟩ | ⟨ss, x, ta, tb, args, tys, h1, h2', h3, h4⟩
        · intro hq
          rw [hq] at h1
          exact hji (hdd i j oi oj d hoi hoj h1 hdj)
        · exact hI j oj d hoj hl hno hdj ss _ _ (appendR_tok h4).1 h2
    · cases ht'
  · rw [app_tok hs] at ht
    exact hI j oj d hoj hl hno hdj s t e (clT_some ht) h2

theorem qStep_app {ops : Array Oper} {listed : Array Bool} {i j : Nat} {oi oj : Oper} {G : Ef} (hoi : ops[i]? = some oi) (hoj : ops[j]? = some oj) (hqj : hardOp oj = false) (hap : oi.apart ops oj = true)
    (hdd : ∀ (j k : Nat) (a b : Oper) (d : Nat), ops[j]? = some a → ops[k]? = some b → a.dst = some d → b.dst = some d → j = k)
    (hli : listed.getD i true = false) (hlj : listed.getD j true = false) (hna : ¬(appOp oi = true ∧ appOp oj = true)) {K : St → Prop} {st : St} (hI : Inv ops listed st) (hy : YldE P ops oi G st)
    (h : qStep P n' ops j K (G.app oi.dst st)) : qStep P n' ops j (fun st' => Inv ops (listed.setIfInBounds j true) st' ∧ YldE P ops oi G st' ∧ K (G.app oi.dst st')) st := by
  obtain ⟨h1, h2, h3⟩ := Oper.apart_spec hap
  unfold qStep at h ⊢
  rw [hoj] at h ⊢
  simp only at h ⊢
  rcases h with ⟨Gj, hyj, hk⟩ | ⟨hh, _⟩
  rotate_left
  · rw [hqj] at hh; cases hh
  have e1 := app_eval (G := G) (st := st) h1
  -- the other's effect from the start on
  have hyj' : YldE P ops oj Gj st := by
    rcases hyj with ⟨q1, q2⟩ | ⟨q1, q2⟩
    · exact .inl ⟨e1.2 ▸ q1, Ef.can_back h1 q2⟩
    · exact .inr ⟨e1.2 ▸ q1, q2⟩
  have e2 := app_eval (G := Gj) (st := st) h3
  -- their tokens differ
  have hne : ∀ vi ti ei vj tj ej, G = .cl vi ti ei → Gj = .cl vj tj ej → ti ≠ tj := by
    rintro vi ti ei vj tj ej rfl rfl rfl
    have ci : (Ef.cl vi ti ei).can P oi st := by
      rcases hy with ⟨_, q⟩ | ⟨_, q⟩
      · exact q
      · cases q
    have cj : (Ef.cl vj ti ej).can P oj st := by
      rcases hyj' with ⟨_, q⟩ | ⟨_, q⟩
      · exact q
      · cases q
    rcases ci with ⟨i0, i1, i2, _⟩ | ⟨ss, x, ta, tb, args, tys, i1, i2, i3, i4⟩
    · rcases cj with ⟨j0, j1, j2, _⟩ | ⟨ss, x, ta, tb, args, tys, j1, j2, j3, j4⟩
      · exact h2 _ i1 j1
      · obtain ⟨q1, q2⟩ := appendR_tok j4
        exact hI i oi _ hoi hli i0 i1 ss ti ej q1 q2 rfl
    · rcases cj with ⟨j0, j1, j2, _⟩ | ⟨ss', x', ta', tb', args', tys', j1, j2, j3, j4⟩
      · obtain ⟨q1, q2⟩ := appendR_tok i4
        exact hI j oj _ hoj hlj j0 j1 ss ti ei q1 q2 rfl
      · exact hna ⟨by simp [appOp, i1], by simp [appOp, j1]⟩
  have hcl : ∀ (A : Ef) {t' : Nat}, A.c = some t' → ∃ v e, A = .cl v t' e := by
    intro A t' ha
    cases A <;> simp [Ef.c] at ha
    subst ha; exact ⟨_, _, rfl⟩
  refine .inl ⟨Gj, hyj', hI.step hdd hoj hyj', ?_, ?_⟩
  · rcases hy with ⟨q1, q2⟩ | ⟨q1, q2⟩
    · refine .inl ⟨e2.2 ▸ q1, Ef.can_app h3 q2 fun v t e t' hg hc => ?_⟩
      obtain ⟨v', e', rfl⟩ := hcl Gj hc
      exact hne _ _ _ _ _ _ hg rfl
    · exact .inr ⟨e2.2 ▸ q1, q2⟩
  · have hop : ∀ (A : Ef) (o : Oper) (st : St), YldE P ops o A st → ∀ x, A = .copy x → x ∈ o.op.operands := by
      rintro A o st hy x rfl
      rcases hy with ⟨_, q⟩ | ⟨_, q⟩
      · rcases q with q | q <;> simp [q, Op.operands]
      · cases q
    have hlt : ∀ (A : Ef) (o : Oper) (st : St), YldE P ops o A st → ∀ v t e, A = .cl v t e → tcl t < 2 := by
      rintro A o st hy v t e rfl
      rcases hy with ⟨_, q⟩ | ⟨_, q⟩
      · rcases q with ⟨_, _, q, _⟩ | ⟨ss, x, ta, tb, args, tys, i1, i2, i3, i4⟩
        · exact q
        · exact (appendR_tok i4).2
      · cases q
    have key : ∀ (A B : Ef) (o : Oper) (dst : Option Nat), (∀ d, dst = some d → d ∉ o.looksAt ops) → YldE P ops o A st → (∀ v t e v' t' e', A = .cl v t e → B = .cl v' t' e' → t ≠ t') →
        A.val (B.app dst st) = A.val st ∧ A.tk (B.app dst st) = clT B.c (A.tk st) := by
      intro A B o dst hd hy hne
      have e := (app_eval (G := B) (st := st) hd).1
      cases A with
      | put v => exact ⟨rfl, (clT_none _).symm⟩
      | copy x => exact e x (hop _ _ _ hy x rfl)
      | cl v t e' =>
        refine ⟨rfl, (clT_keep (hlt _ _ _ hy v t e' rfl) fun t' hc => ?_).symm⟩
        obtain ⟨v', e'', rfl⟩ := hcl B hc
        exact hne _ _ _ _ _ _ rfl rfl
    obtain ⟨a1, a2⟩ := key G Gj oi oj.dst h3 hy hne
    obtain ⟨b1, b2⟩ := key Gj G oj oi.dst h1 hyj' fun v t e v' t' e' q1 q2 q3 => hne _ _ _ _ _ _ q2 q1 q3.symm
    rw [← Ef.comm (Gi := G) (Gj := Gj) h2 a1 b1 a2 b2]
    exact hk

theorem sAny_first {ops : Array Oper} {Q : St → Prop} {i : Nat} {oi : Oper} {G : Ef} (hi : ops[i]? = some oi)
    (hpin : ∀ (j : Nat) (oj : Oper), ops[j]? = some oj → hardOp oj = true → pinned ops j = true)
    (hch : ∀ (j k : Nat) (a b : Oper), ops[j]? = some a → ops[k]? = some b → appOp a = true → appOp b = true → j ≠ k → chained ops j k)
    (hdd : ∀ (j k : Nat) (a b : Oper) (d : Nat), ops[j]? = some a → ops[k]? = some b → a.dst = some d → b.dst = some d → j = k) :
    ∀ (fuel : Nat) (listed : Array Bool) (st : St), Cl ops listed →
      (∀ (j : Nat) (oj : Oper), ops[j]? = some oj → j ≠ i → listed.getD j true = false → (∀ e ∈ oj.after, Region.binds .any e = true → e.on ≠ i) → oi.apart ops oj = true) →
      i ∈ Region.ready .any ops listed → Inv ops listed st → YldE P ops oi G st →
      sAny P n' ops Q fuel (listed.setIfInBounds i true) (G.app oi.dst st) → sAny P n' ops Q (fuel + 1) listed st := by
  have step : ∀ {K : St → Prop} {st : St}, YldE P ops oi G st → K (G.app oi.dst st) → qStep P n' ops i K st := by
    intro K st hy hk
    unfold qStep
    rw [hi]
    exact .inl ⟨G, hy, hk⟩
  intro fuel
  induction fuel with
  | zero =>
    intro listed st _ _ hr _ hy H
    refine ⟨fun h => (by rw [h] at hr; cases hr), fun j hj => ?_⟩
    by_cases hji : j = i
    · subst hji; exact step hy H
    · have := ready_mono hj hji
      rw [H.1] at this
      cases this
  | succ fuel ih =>
    intro listed st hcl hfree hr hI hy H
    refine ⟨fun h => (by rw [h] at hr; cases hr), fun j hj => ?_⟩
    by_cases hji : j = i
    · subst hji; exact step hy H
    · have h1 := H.2 j (ready_mono hj hji)
      obtain ⟨hjun, oj, hoj, hall⟩ := mem_ready.1 hj
      have hiun := (mem_ready.1 hr).1
      have hnot : ∀ e ∈ oj.after, Region.binds .any e = true → e.on ≠ i := fun e he hb heq => by
        have h1 := hall e he hb
        have h0 := (mem_ready.1 hr).1
        rw [heq] at h1
        rcases Nat.lt_or_ge i listed.size with h' | h'
        · simp [h'] at h0 h1; rw [h0] at h1; cases h1
        · simp [Array.getElem?_eq_none h'] at h1
      have hqj : hardOp oj = false := by
        cases hq : hardOp oj with
        | false => rfl
        | true => exact absurd (pinned_alone hcl (hpin j oj hoj hq) hr hj) (Ne.symm hji)
      have hna : ¬(appOp oi = true ∧ appOp oj = true) := fun ⟨q1, q2⟩ => chained_alone hcl (hch i j oi oj hi hoj q1 q2 (Ne.symm hji)) hr hj
      have h2 := qStep_app hi hoj hqj (hfree j oj hoj hji hjun hnot) hdd hiun hjun hna hI hy h1
      have hfree' : ∀ (k : Nat) (ok : Oper), ops[k]? = some ok → k ≠ i → (listed.setIfInBounds j true).getD k true = false →
          (∀ e ∈ ok.after, Region.binds .any e = true → e.on ≠ i) → oi.apart ops ok = true := fun k ok hk hki hun hno => by
        refine hfree k ok hk hki ?_ hno
        by_cases hjk : j = k
        · subst hjk; exact hjun
        · rw [getD_set_ne true hjk] at hun; exact hun
      refine qStep_mono (fun st' h3 => ih (listed.setIfInBounds j true) st' (hcl.step hj) hfree' (ready_mono hr (Ne.symm hji)) h3.1 h3.2.1 ?_) h2
      rw [Array.setIfInBounds_comm _ _ hji]
      exact h3.2.2

/-- What an operation that is not hard does. -/
theorem opVC_eff {o : Oper} {st : St} {K : St → Prop} (hd : dstOK n' o = true) (hq : hardOp o = false) (h : opVC P true o st K) : ∃ G : Ef, G.can P o st ∧ K (G.app o.dst st) := by
  replace h : opVC0 P true o st K := by
    rcases h with h | ⟨h, _⟩
    · exact h
    · cases h
  unfold opVC0 at h
  split at h
  · rename_i ho; simp [hardOp, ho] at hq
  · rename_i ho; simp [hardOp, ho] at hq
  · rename_i ho; simp [hardOp, ho] at hq
  · rename_i args tys ho
    split at h
    · rename_i ss x t u ha ht
      obtain ⟨v, tk, e, h1, h2⟩ := appendVC_R h
      exact ⟨.cl v tk e, .inr ⟨ss, x, t, u, args, tys, ho, ha, ht, h1⟩, by rw [Ef.app_cl]; exact h2⟩
    · exact h.elim
  · rename_i ho; simp [hardOp, ho] at hq
  · rename_i ho; simp [hardOp, ho] at hq
  · rename_i f args tys ho
    unfold callAVC at h
    split at h
    · rename_i g first cap hf
      rcases h with ⟨h1, h2, res, h3, h4⟩ | ⟨h, _⟩
      · exact ⟨.put res, ⟨none, qv_call ho hf h1 h2 h3⟩, by rw [Ef.app_put]; exact h4⟩
      · cases h
    · exact h.elim
  · obtain ⟨v, tk, q1, q2, q3⟩ := valVC_sound (dstOK_small hd) h
    unfold putV at q3
    rcases q1 with ⟨hc, fr, hv, ht⟩ | ⟨hc, x, hx, rfl, rfl⟩
    · rw [hc] at q3
      simp only [cond_false] at q3
      cases tk with
      | none => exact ⟨.put v, ⟨fr, hv⟩, by rw [Ef.app_put]; exact q3⟩
      | some te =>
        obtain ⟨t, e⟩ := te
        obtain ⟨r0, r1, r2⟩ := q2 rfl hc t e rfl
        have := ht t e rfl
        subst this
        exact ⟨.cl v t e, .inl ⟨r0, r1, r2, hv⟩, by rw [Ef.app_cl]; exact q3⟩
    · rw [hc] at q3
      exact ⟨.copy x, hx, by rw [Ef.app_copy]; exact q3⟩

theorem put_none_tok {st : St} {dst : Option Nat} {v : V} {s t : Nat} {e : TypeId} (h : (st.put dst v none).tok s = some (t, e)) : st.tok s = some (t, e) := by
  cases dst with
  | none => exact h
  | some d =>
    rw [St.tok_put] at h
    unfold upd at h
    split at h
    · cases h
    · exact h

/-- A hard operation makes no token. -/
theorem opVC_hard {o : Oper} {st : St} {K : St → Prop} (hq : hardOp o = true) (h : opVC P true o st K) : opVC P true o st fun st' => K st' ∧ ∀ s t e, st'.tok s = some (t, e) → st.tok s = some (t, e) := by
  replace h : opVC0 P true o st K := by
    rcases h with h | ⟨h, _⟩
    · exact h
    · cases h
  refine .inl ?_
  unfold opVC0 at h ⊢
  split at h
  · obtain ⟨h0, h1, h2, h3⟩ := h
    exact ⟨h0, h1, h2, h3, fun s t e ht => put_none_tok (st := st.newBox _ _) ht⟩
  · split at h
    · obtain ⟨h0, h1, h2, h3⟩ := h
      exact ⟨h0, h1, h2, h3, fun s t e ht => put_none_tok (st := st.newBox _ _) ht⟩
    · exact h.elim
  · unfold storeVC at h ⊢
    split at h
    · split at h
      · rename_i B n hB hs
        simp only [hB, hs]
        obtain ⟨h0, h1, h2, h3, h4⟩ := h
        exact ⟨h0, h1, h2, h3, h4, fun s t e ht => ht⟩
      · exact h.elim
    · exact h.elim
  · rename_i ho; simp [hardOp, ho] at hq
  · obtain ⟨h1, h2⟩ := h
    exact ⟨h1, h2, fun s t e ht => put_none_tok (st := st.newBox _ _) ht⟩
  · unfold mapPutVC at h ⊢
    split at h
    · rename_i i kt et hm hT
      split at h
      · rename_i B ag ks hB hk
        simp only [hB, hk]
        obtain ⟨h0, h1, h2, h3, h4, h5⟩ := h
        exact ⟨h0, h1, h2, h3, h4, h5, fun s t e ht => ht⟩
      · exact h.elim
    · exact h.elim
  · rename_i ho; simp [hardOp, ho] at hq
  · rename_i n1 n2 n3 n4 n5 n6 n7
    unfold hardOp at hq
    split at hq
    · rename_i ho; exact absurd ho (n1 _ _)
    · rename_i ho; exact absurd ho (n2 _)
    · rename_i ho; exact absurd ho (n3 _ _ _)
    · rename_i ho; exact absurd ho (n6 _ _ _ _)
    · rename_i t r ho
      cases r with
      | none => exact absurd ho (n5 _)
      | some x => simp only [valVC, ho] at h
    · cases hq

def pinOK (ops : Array Oper) : Bool := (List.range ops.size).all (fun j => match ops[j]? with
  | some o => !hardOp o || pinned ops j
  | none => true) && (List.range ops.size).all fun j => (List.range ops.size).all fun k => match ops[j]?, ops[k]? with
    | some a, some b => Nat.beq j k || ((match a.dst, b.dst with | some d, some d' => !Nat.beq d d' | _, _ => true) && (!(appOp a && appOp b) || ancB ops ops.size j k || ancB ops ops.size k j))
    | _, _ => true

theorem pinOK_spec {ops : Array Oper} (h : pinOK ops = true) : (∀ (j : Nat) (oj : Oper), ops[j]? = some oj → hardOp oj = true → pinned ops j = true) ∧
    (∀ (j k : Nat) (a b : Oper), ops[j]? = some a → ops[k]? = some b → appOp a = true → appOp b = true → j ≠ k → chained ops j k) ∧
    (∀ (j k : Nat) (a b : Oper) (d : Nat), ops[j]? = some a → ops[k]? = some b → a.dst = some d → b.dst = some d → j = k) := by
  unfold pinOK at h
  rw [Bool.and_eq_true, List.all_eq_true, List.all_eq_true] at h
  have key : ∀ (j k : Nat) (a b : Oper), ops[j]? = some a → ops[k]? = some b → j ≠ k → (∀ d, a.dst = some d → b.dst ≠ some d) ∧ (appOp a = true → appOp b = true → chained ops j k) := by
    intro j k a b ha hb hne
    have := h.2 j (by simpa using (Array.getElem?_eq_some_iff.1 ha).1)
    rw [List.all_eq_true] at this
    have := this k (by simpa using (Array.getElem?_eq_some_iff.1 hb).1)
    rw [ha, hb] at this
    simp only [Bool.or_eq_true, Bool.and_eq_true] at this
    rcases this with this | ⟨t1, t2⟩
    · exact absurd (Nat.eq_of_beq_eq_true this) hne
    refine ⟨fun d q1 q2 => ?_, fun q1 q2 => ?_⟩
    · rw [q1, q2] at t1
      simp at t1
    · simp only [q1, q2, Bool.and_self, Bool.not_true, Bool.false_eq_true, false_or] at t2
      exact t2
  refine ⟨fun j oj hj hq => ?_, fun j k a b ha hb q1 q2 hne => (key j k a b ha hb hne).2 q1 q2, fun j k a b d ha hb q1 q2 => ?_⟩
  · have := h.1 j (by simpa using (Array.getElem?_eq_some_iff.1 hj).1)
    rw [hj] at this
    simpa [hq] using this
  · apply Classical.byContradiction
    intro hne
    exact (key j k a b ha hb hne).1 d q1 q2

theorem sAny_lex {ops : Array Oper} {K : St → Prop} (hpin : pinOK ops = true) : ∀ (l : List Oper) (k : Nat) (listed : Array Bool) (st : St), (∀ j, l[j]? = ops[k + j]?) → Cl ops listed → Inv ops listed st → l.all (dstOK n') = true →
    Region.lexFrom .any ops l.length k listed = true → opsVC P true (ops.toList.map (·.dst)) l st K → sAny P n' ops K l.length listed st
  | [], _, _, _, _, _, _, _, hB, h => ⟨by simpa [Region.lexFrom] using hB, h⟩
  | o :: l, k, listed, st, hl, hcl, hI, hall, hB, h => by
    have h0 : ops[k]? = some o := by simpa using (hl 0).symm
    simp only [List.length_cons, Region.lexFrom, Bool.and_eq_true] at hB
    obtain ⟨⟨hr, hf⟩, hB'⟩ := hB
    simp only [List.all_cons, Bool.and_eq_true] at hall
    have hr' : k ∈ Region.ready .any ops listed := by simpa using hr
    have hl' : ∀ j, l[j]? = ops[k + 1 + j]? := fun j => by have := hl (j + 1); simpa [Nat.add_assoc, Nat.add_comm 1 j] using this
    simp only [opsVC] at h
    obtain ⟨p1, p2, p3⟩ := pinOK_spec hpin
    cases hq : hardOp o with
    | false =>
      have hst : ∃ G : Ef, YldE P ops o G st ∧ opsVC P true (ops.toList.map (·.dst)) l (G.app o.dst st) K := by
        rcases gdVC_iff.1 h with ⟨hg, h⟩ | ⟨hg, h⟩
        · obtain ⟨G, q1, q2⟩ := opVC_eff hall.1 hq h
          exact ⟨G, .inl ⟨hg, q1⟩, q2⟩
        · exact ⟨.put .un, .inr ⟨hg, rfl⟩, by rw [Ef.app_put]; exact h⟩
      obtain ⟨G, hy, hK⟩ := hst
      exact sAny_first h0 p1 p2 p3 l.length listed st hcl (Region.free_spec h0 hf) hr' hI hy (sAny_lex hpin l (k + 1) _ _ hl' (hcl.step hr') (hI.step p3 h0 hy) hall.2 hB' hK)
    | true =>
      refine ⟨fun h => (by rw [h] at hr'; cases hr'), fun j hj => ?_⟩
      have hjk := pinned_alone hcl (p1 k o h0 hq) hj hr'
      subst hjk
      have hsub : ∀ st', (∀ s t e, st'.tok s = some (t, e) → st.tok s = some (t, e)) → Inv ops (listed.setIfInBounds j true) st' := by
        intro st' hs i oi d hoi hli hno hd s t e ht h2
        have hij : j ≠ i := by
          rintro rfl
          rw [getD_set_self] at hli; cases hli
        rw [getD_set_ne true hij] at hli
        exact hI i oi d hoi hli hno hd s t e (hs s t e ht) h2
      unfold qStep
      rw [h0]
      rcases gdVC_iff.1 h with ⟨hg, h⟩ | ⟨hg, h⟩
      · exact .inr ⟨hq, hg, (opVC_sound hall.1 (opVC_hard hq h)).mono fun st' hk => sAny_lex hpin l (j + 1) _ st' hl' (hcl.step hr') (hsub st' hk.2) hall.2 hB' hk.1⟩
      · refine .inl ⟨.put .un, .inr ⟨hg, rfl⟩, ?_⟩
        rw [Ef.app_put]
        exact sAny_lex hpin l (j + 1) _ _ hl' (hcl.step hr') (hsub _ fun s t e ht => put_none_tok ht) hall.2 hB' h

end
end Go.Eng
