import Derived.Test.YtjcbpfhlgebgdaaE4
set_option linter.unusedSimpArgs false
set_option linter.unusedVariables false
namespace Go.Eng
open Go.RowKit
def constC : Value → V
  | .int k n => .int k n
  | .bool b => .bool b
  | .string s => if s.size ≤ maxLen then .str s.data.toList else .any
  | .pointer none => .nilp
  | .slice none 0 0 => .list []
  | .nilFunc => .nilfn
  | .nilIface => .nilif
  | _ => .any
def constV : Value → V
  | .agg cs => if cs.toList.all (fun x => x.oneCell') then .agg (cs.toList.map constC) else .any
  | .tuple cs => .tup (cs.toList.map constC)
  | v => constC v
theorem R_constC (E : Env) (x : Value) : R E (constC x) x := by
  unfold constC
  split
  all_goals first
    | (simp [R]; done)
    | skip
  · split
    · rename_i s h
      have h' : s.data.toList.length ≤ maxLen := by rw [Array.length_toList]; exact h
      simp only [R]
      first | exact ⟨rfl, h'⟩ | exact ⟨trivial, h'⟩
    · simp [R]
  · simp only [R]
    exact ⟨none, 0, rfl, Nat.le_refl _, by simp [maxLen], .inl ⟨trivial, rfl⟩⟩
theorem RL_constC (E : Env) : ∀ (xs : List Value), RL E (xs.map constC) xs
  | [] => by simp [RL]
  | x :: xs => by
    simp only [List.map_cons, RL]
    exact ⟨x, xs, rfl, R_constC E x, RL_constC E xs⟩
theorem R_constV (E : Env) (x : Value) : R E (constV x) x := by
  unfold constV
  split
  · split
    · rename_i cs h
      simp only [R]
      refine ⟨cs.toList, by simp, RL_constC E _, fun y hy => ?_⟩
      exact List.all_eq_true.1 h y hy
    · simp [R]
  · rename_i cs
    simp only [R]
    exact ⟨cs.toList, by simp, RL_constC E _⟩
  · exact R_constC E _
def St.eval (st : St) : Operand → V
  | .tmp t => st.env t
  | .const v => constV v
  | .global g => (match GL g with | some vs => .elt (vs.map constV) 0 | none => .any)
  | .func f => .fn (.func f) [] []
theorem RC_consts {w : World} {pr : Nat → Nat → Prop} {lam : Nat → Option Nat} {b : Nat} : ∀ (vs : List Value) (o : Nat), (∀ i, (h : i < vs.length) → w.cell? ⟨b, o + i, none⟩ = some vs[i]) → (∀ i, i < vs.length → pr b (o + i)) → (∀ v ∈ vs, v.oneCell' = true) → RC ⟨w, pr, lam⟩ b o (vs.map constV)
  | [], _, _, _, _ => by simp [RC]
  | v :: vs, o, h1, h2, h3 => by
    simp only [List.map_cons, RC]
    refine ⟨⟨v, ⟨h1 0 (by simp), h2 0 (by simp)⟩, h3 v (by simp), R_constV _ v⟩, RC_consts vs (o + 1) (fun i hi => ?_) (fun i hi => ?_) fun v hv => h3 v (by simp [hv])⟩
    · have := h1 (i + 1) (by simpa using hi)
      rw [show o + 1 + i = o + (i + 1) from by omega, this]; rfl
    · have := h2 (i + 1) (by simpa using hi)
      rwa [show o + 1 + i = o + (i + 1) from by omega]
def St.tokOf (st : St) : Operand → Option (Nat × TypeId)
  | .tmp t => st.tok t
  | _ => none
section
variable {P : Program} {n' : Nat} {F : Fr} {st : St} {a : Act} {w : World} {pr : Nat → Nat → Prop} {lam : Nat → Option Nat}
theorem SRel.eval (h : SRel P F st a w pr lam) (x : Operand) : R ⟨w, pr, lam⟩ (st.eval x) (a.eval x) := by
  cases x with
  | tmp t => exact h.env t
  | const v => exact R_constV _ v
  | global g =>
    simp only [St.eval]
    cases hg : GL g with
    | none => simp [R]
    | some vs =>
      obtain ⟨⟨ty, h1⟩, h2⟩ := h.hl.glob g vs hg
      simp only [R]
      refine ⟨g, 0, rfl, RC_consts (b := g) (pr := pr) (w := w) (lam := lam) vs 0 (fun i hi => ?_) (fun i hi => by simpa using h2 i hi) (GL_one g vs hg)⟩
      simp [World.cell?, h1, hi]
  | func f => simp only [St.eval, R]; exact ⟨[], [], rfl, by simp [RL], by simp [RL]⟩
def OpOK (P : Program) (n' : Nat) (o : Oper) (st : St) (K : St → Prop) : Prop :=
  ∀ (F : Fr) (a : Act) (w : World) (pr : Nat → Nat → Prop) (lam : Nat → Option Nat), F.nt = n' → SRel P F st a w pr lam →
    ∀ (next : Act → World → Prop) (Q : Exit → Act → World → Prop),
      (∀ st' a' w' pr' lam', K st' → SRel P F st' a' w' pr' lam' → next a' w') → o.wp P a w next Q
theorem TokOk.fresh {w' : World} {pr' : Nat → Nat → Prop} (h : SRel P F st a w pr lam) (he : Ext w pr w' pr') {v : V} {x : Value} {e : TypeId} (t : Nat) (hc : tcl t < 2) (ho : Own P (fun g => w.heap.size ≤ g) ⟨w', pr', lam⟩ (tcl t) e x) :
    TokOk P F (st.clear t) a w' pr' lam v x (some (t, e)) := by
  have hge : ∀ g, gblock (tcl t) x = some g → w.heap.size ≤ g := fun g hg => (ho g hg).1
  refine ⟨fun g hg => ?_, fun s t' e' g hs h1 h2 => ?_, fun i B b hB hl hg => ?_, fun s e' hs => absurd rfl (clear_tok hs).2.1, fun hc' => by omega, fun s e' b o g hs => absurd rfl (clear_tok hs).2.2, fun s u e' b o g hu => ?_⟩
  · obtain ⟨h1, h2⟩ := ho g hg
    exact ⟨.inl (Nat.le_trans h.keep.size h1), h2⟩
  · obtain ⟨_, n, cap, cur, sz, _, h3, _⟩ := h.own s t' e' (clear_tok hs).1 g h1
    have hlt : g < w.heap.size := (Array.getElem?_eq_some_iff.1 h3).1
    have := hge g h2
    omega
  · obtain ⟨b', h1, h2, _⟩ := h.box i B hB
    rw [hl] at h1; cases h1
    have hlt : b < w.heap.size := h2.lt
    have := hge b hg
    omega
  · exfalso
    unfold tcl at hc
    omega
theorem opok_quiet {o : Oper} {K : St → Prop} {v : V} {fr : Option (Nat × TypeId)} {tk : Option (Nat × TypeId)} (hq : QV P o st.eval st.box v fr) (htk : ∀ t e, tk = some (t, e) → fr = some (tcl t, e))
    (hd : ∀ d, o.dst = some d → d < n') (hk : K ((st.fresh tk).put o.dst v tk)) : OpOK P n' o st K := by
  intro F a w pr lam hF h next Q hn
  subst hF
  refine hq a w pr lam h.hl (fun x _ => h.eval x) h.brel next Q fun x w' pr' he hx ho => ?_
  refine hn _ _ w' pr' lam hk (((h.ext he).fresh tk).put hd hx ?_)
  cases tk with
  | none => trivial
  | some te =>
    obtain ⟨t, e⟩ := te
    obtain ⟨q1, q2⟩ := ho _ e (htk t e rfl)
    exact TokOk.fresh h he t q1 q2
theorem opok_copy {o : Oper} {K : St → Prop} {x : Operand} (ho : o.op = .move x ∨ o.op = .assign x) (hd : ∀ d, o.dst = some d → d < n') (hk : K (st.put o.dst (st.eval x) (st.tokOf x))) : OpOK P n' o st K := by
  intro F a w pr lam hF h next Q hn
  subst hF
  have hr : (execOp a.eval o).run P w = .ok (.value (a.eval x)) w := by
    rcases ho with ho | ho <;> simp [execOp, ho]
  unfold Oper.wp
  rw [hr, Oper.upon_value]
  refine hn _ _ w pr lam hk (h.put hd (h.eval x) ?_)
  cases x with
  | tmp s =>
    simp only [St.tokOf]
    cases hs : st.tok s with
    | none => trivial
    | some te =>
      obtain ⟨t, e⟩ := te
      exact ⟨h.own s t e hs, fun s' t' e' g hs' h1 h2 => h.coh s s' t t' e e' g hs hs' h2 h1, fun i B b hB hl => h.apart i B b s t e hB hl hs, fun s' e' hs' hc => h.coh2 s' s t e' e hs' hs hc, fun hc => h.old s t e hs hc,
        fun s' e' b o g hs' h1 h2 => h.ptr s' s t e' e b o g hs' hs h1 h2, fun s' u e' b o g hu hs' h1 h2 => h.ptr s s' u e e' b o g (hu ▸ hs) hs' h1 h2⟩
  | const v => trivial
  | global g => trivial
  | func f => trivial
def St.setBox (st : St) (i : Nat) (B : Box) : St := { st with box := upd st.box i (some B) }
theorem run_newVar (e : TypeId) (v : Value) (w : World) : (newVar e v).run P w = .ok ⟨w.heap.size, 0, none⟩ (w.alloc (.cells v.cells e)) := by
  simp [newVar, newRow]
theorem SRel.newObj (h : SRel P F st a w pr lam) {i : Nat} (hi : st.box i = none) {cs : List V} {ob : Obj} {e : TypeId}
    (hob : ∀ E : Env, Env.Le ⟨w, pr, lam⟩ E → E.w.heap[w.heap.size]? = some ob → BoxAt E w.heap.size ⟨cs, e⟩) :
    SRel P F (st.setBox i ⟨cs, e⟩) a (w.alloc ob) pr (upd lam i (some w.heap.size)) := by
  have hl := h.nolam i hi
  have hext : Ext w pr (w.alloc ob) pr := Ext.alloc w pr _
  have h' := h.ext hext
  have hle : Env.Le ⟨w.alloc ob, pr, lam⟩ ⟨w.alloc ob, pr, upd lam i (some w.heap.size)⟩ :=
    ⟨fun j b hj => (by
      show upd lam i (some w.heap.size) j = some b
      have hji : j ≠ i := by
        intro hji
        change lam j = some b at hj
        rw [hji, hl] at hj
        cases hj
      rw [upd_ne _ _ _ _ hji]; exact hj), fun _ _ h => h, fun _ _ _ => rfl⟩
  have hle0 : Env.Le ⟨w, pr, lam⟩ ⟨w.alloc ob, pr, lam⟩ := hext.le h.prlt
  have hne : ∀ j B, st.box j = some B → j ≠ i := by
    intro j B hB hj; rw [hj, hi] at hB; cases hB
  have holdlt : ∀ j B b, st.box j = some B → lam j = some b → b < w.heap.size := by
    intro j B b hB hj
    obtain ⟨b', q1, q2, _⟩ := h.box j B hB
    rw [hj] at q1; cases q1
    exact q2.lt
  refine ⟨h.size, h.defers, fun s => (h'.env s).mono hle, fun s t e' hs g hg => ?_, h.coh, ?_, ?_, ?_, ?_, h'.prlt, h'.keep, h'.prsub, h'.prnew, fun j b hj => hle.lam j b (h.lamsub j b hj), h.coh2,
    fun s t e' hs hc => (h'.old s t e' hs hc).old hle.lam (fun _ _ _ => rfl), h.ptr⟩
  · exact h'.own s t e' hs g hg
  · intro j B hB
    change upd st.box i _ j = some B at hB
    by_cases hj : j = i
    · subst hj
      rw [upd_same] at hB; cases hB
      exact ⟨w.heap.size, by simp, hob _ (hle0.trans hle) (heap_alloc_new w _), fun o hp => by have := h.prlt _ _ hp; omega, .inl h.keep.size⟩
    · rw [upd_ne _ _ _ _ hj] at hB
      obtain ⟨b, q1, q2, q5, q6⟩ := h'.box j B hB
      exact ⟨b, by rw [upd_ne _ _ _ _ hj]; exact q1, q2.mono hle rfl, q5, q6⟩
  · intro j j' B B' b hB hB' q1 q2
    change upd st.box i _ j = some B at hB
    change upd st.box i _ j' = some B' at hB'
    by_cases hj : j = i <;> by_cases hj' : j' = i
    · rw [hj, hj']
    · exfalso
      rw [upd_ne _ _ _ _ hj'] at hB' q2
      rw [hj, upd_same] at q1
      cases q1
      have := holdlt j' B' _ hB' q2
      omega
    · exfalso
      rw [upd_ne _ _ _ _ hj] at hB q1
      rw [hj', upd_same] at q2
      cases q2
      have := holdlt j B _ hB q1
      omega
    · rw [upd_ne _ _ _ _ hj] at hB q1
      rw [upd_ne _ _ _ _ hj'] at hB' q2
      exact h.inj j j' B B' b hB hB' q1 q2
  · intro j B b s t e' hB q1 hs hg
    change upd st.box i _ j = some B at hB
    by_cases hj : j = i
    · rw [hj, upd_same] at q1
      cases q1
      obtain ⟨_, n, cap, cur', sz, _, h3, _⟩ := h.own s t e' hs _ hg
      have : w.heap.size < w.heap.size := (Array.getElem?_eq_some_iff.1 h3).1
      omega
    · rw [upd_ne _ _ _ _ hj] at hB q1
      exact h.apart j B b s t e' hB q1 hs hg
  · intro j hj
    change upd st.box i _ j = none at hj
    by_cases hji : j = i
    · rw [hji, upd_same] at hj; cases hj
    · rw [upd_ne _ _ _ _ hji] at hj ⊢
      exact h.nolam j hj
theorem SRel.newBox (h : SRel P F st a w pr lam) {i : Nat} (hi : st.box i = none) {cs : List V} {cur : Array Value} {e : TypeId} (hty : e < mapTy) (hr : RL ⟨w, pr, lam⟩ cs cur.toList) (h1 : ∀ y ∈ cur.toList, y.oneCell' = true) :
    SRel P F (st.setBox i ⟨cs, e⟩) a (w.alloc (.cells cur e)) pr (upd lam i (some w.heap.size)) :=
  h.newObj hi fun _ hle hg => ⟨fun _ => ⟨cur, hg, hr.mono hle, h1⟩, fun ht => absurd hty (Nat.not_lt.2 ht)⟩
theorem opok_box {o : Oper} {K : St → Prop} {e : TypeId} {x : Operand} {i n : Nat} {v : V} (ho : o.op = .box e x) (hx : st.eval x = v) (hv : v.csize = some n) (hi : st.box i = none) (hty : e < mapTy) (hd : ∀ d, o.dst = some d → d < n')
    (hk : K ((st.setBox i ⟨v.cellsL, e⟩).put o.dst (.loc i 0) none)) : OpOK P n' o st K := by
  intro F a w pr lam hF h next Q hn
  subst hF
  have hr : (execOp a.eval o).run P w = .ok (.value (.pointer (some ⟨w.heap.size, 0, none⟩))) (w.alloc (.cells (a.eval x).cells e)) := by
    simp [execOp, ho, Instr.box, run_newVar]
  unfold Oper.wp
  rw [hr, Oper.upon_value]
  have hx' := h.eval x
  rw [hx] at hx'
  obtain ⟨q1, q2⟩ := hx'.cells hv
  refine hn _ _ _ pr (upd lam i (some w.heap.size)) hk ((h.newBox hi hty q1 q2).put hd ?_ trivial)
  simp only [R]
  exact ⟨w.heap.size, by simp, rfl⟩
def zeroT (P : Program) (t : TypeId) : Option V := ((P.info? t).bind (·.zero)).map constV
theorem zeroT_spec {t : TypeId} {v : V} (h : zeroT P t = some v) : ∃ i z, P.info? t = some i ∧ i.zero = some z ∧ constV z = v := by
  unfold zeroT at h
  cases hi : P.info? t with
  | none => simp [hi] at h
  | some i =>
    simp [hi] at h
    obtain ⟨z, hz, hv⟩ := h
    exact ⟨i, z, rfl, hz, hv⟩
theorem opok_alloc {o : Oper} {K : St → Prop} {e : TypeId} {i n : Nat} {v : V} (ho : o.op = .alloc e) (hz : zeroT P e = some v) (hv : v.csize = some n) (hi : st.box i = none) (hty : e < mapTy) (hd : ∀ d, o.dst = some d → d < n')
    (hk : K ((st.setBox i ⟨v.cellsL, e⟩).put o.dst (.loc i 0) none)) : OpOK P n' o st K := by
  intro F a w pr lam hF h next Q hn
  subst hF
  obtain ⟨j, z, q1, q2, rfl⟩ := zeroT_spec hz
  have hr : (execOp a.eval o).run P w = .ok (.value (.pointer (some ⟨w.heap.size, 0, none⟩))) (w.alloc (.cells z.cells e)) := by
    simp [execOp, ho, Instr.alloc, zeroValue, typeInfo, q1, q2, run_newVar]
  unfold Oper.wp
  rw [hr, Oper.upon_value]
  obtain ⟨q1, q2⟩ := (R_constV ⟨w, pr, lam⟩ z).cells hv
  refine hn _ _ _ pr (upd lam i (some w.heap.size)) hk ((h.newBox hi hty q1 q2).put hd ?_ trivial)
  simp only [R]
  exact ⟨w.heap.size, by simp, rfl⟩
theorem run_storeVar {t : TypeId} {b off n : Nat} {w : World} {v : Value} {cur : Array Value} {ty : TypeId} (hs : sizeT P t = some n) (hn : v.cells.size = n) (hg : w.heap[b]? = some (.cells cur ty (0, 0)))
    (hfit : off + n ≤ cur.size) (h1 : ∀ y ∈ v.cells.toList, y.oneCell' = true) :
    (storeVar t ⟨b, off, none⟩ v).run P w = .ok () (w.setRow b (cur.toList.take off ++ v.cells.toList ++ cur.toList.drop (off + n)).toArray) := by
  have hst := run_storeCells_at P b off ty v.cells.toList 0 cur w hg (by simpa [hn] using hfit) h1
  simp only [Nat.add_zero, Array.length_toList, hn] at hst
  simp only [storeVar, Sem.run_bind, run_sizeOf hs, Result.andThen_ok, hn, ne_eq, not_true, if_false]
  exact hst
theorem cell?_setRow_ne {w : World} {g b o : Nat} {cs : Array Value} (h : b ≠ g) : (w.setRow g cs).cell? ⟨b, o, none⟩ = w.cell? ⟨b, o, none⟩ := cell_setRow_other w g cs ⟨b, o, none⟩ h
structure Swap (w w' : World) (b : Nat) : Prop where
  os : w'.os = w.os
  tape : w'.tape = w.tape
  output : w'.output = w.output
  drawn : DLE w w'
  size : w'.heap.size = w.heap.size
  block : ∀ k, k ≠ b → w'.heap[k]? = w.heap[k]?
theorem Swap.cell {w w' : World} {b : Nat} (h : Swap w w' b) {c o : Nat} (hc : c ≠ b) : w'.cell? ⟨c, o, none⟩ = w.cell? ⟨c, o, none⟩ := by
  unfold World.cell?
  rw [h.block c hc]
theorem Swap.setRow (w : World) (b : Nat) (cs : Array Value) : Swap w (w.setRow b cs) b :=
  ⟨rfl, rfl, rfl, DLE.of_eq rfl, by simp, fun k hk => setRow_other w b k cs hk⟩
theorem SRel.setObj (h : SRel P F st a w pr lam) {w' : World} {i b : Nat} {B : Box} {cs : List V} (hB : st.box i = some B) (hl : lam i = some b) (hw : Swap w w' b)
    (hob : Env.Le ⟨w, pr, lam⟩ ⟨w', pr, lam⟩ → BoxAt ⟨w', pr, lam⟩ b ⟨cs, B.ty⟩) : SRel P F (st.setBox i ⟨cs, B.ty⟩) a w' pr lam := by
  obtain ⟨b', q1, q2, q5, q6⟩ := h.box i B hB
  obtain rfl : b = b' := by rw [hl] at q1; cases q1; rfl
  have hle : Env.Le ⟨w, pr, lam⟩ ⟨w', pr, lam⟩ := ⟨fun _ _ h => h, fun _ _ h => h, fun c o hp => hw.cell (fun hc => by subst hc; exact q5 o hp)⟩
  refine ⟨h.size, h.defers, fun s => (h.env s).mono hle, ?_, h.coh, ?_, ?_, ?_, ?_, ?_, ?_, h.prsub, h.prnew, h.lamsub, h.coh2, fun s t e hs hc => (h.old s t e hs hc).old (fun _ _ h => h) (fun c o hp => hle.cell c o (h.prsub c o hp)), h.ptr⟩
  · intro s t e hs g hgb
    obtain ⟨r1, n, cap, cu, sz, r2, r3, r4, r5, r6⟩ := h.own s t e hs g hgb
    have hne : g ≠ b := fun hgb' => h.apart i B b s t e hB hl hs (by rw [← hgb']; exact hgb)
    exact ⟨r1, n, cap, cu, sz, r2, by show w'.heap[g]? = _; rw [hw.block g hne]; exact r3, r4, r5, r6⟩
  · intro j C hC
    change upd st.box i _ j = some C at hC
    by_cases hj : j = i
    · subst hj
      rw [upd_same] at hC; cases hC
      exact ⟨b, hl, hob hle, q5, q6⟩
    · rw [upd_ne _ _ _ _ hj] at hC
      obtain ⟨c, r1, r2, r5, r6⟩ := h.box j C hC
      have hne : c ≠ b := fun hcb => hj (h.inj j i C B b hC hB (by rw [r1, hcb]) hl)
      exact ⟨c, r1, r2.mono hle (hw.block c hne), r5, r6⟩
  · intro j j' C C' c hC hC' r1 r2
    change upd st.box i _ j = some C at hC
    change upd st.box i _ j' = some C' at hC'
    have gt : ∀ k D, upd st.box i (some ⟨cs, B.ty⟩) k = some D → ∃ D', st.box k = some D' := by
      intro k D hD
      by_cases hk : k = i
      · subst hk; exact ⟨B, hB⟩
      · rw [upd_ne _ _ _ _ hk] at hD; exact ⟨D, hD⟩
    obtain ⟨D, hD⟩ := gt j C hC
    obtain ⟨D', hD'⟩ := gt j' C' hC'
    exact h.inj j j' D D' c hD hD' r1 r2
  · intro j C c s t e hC r1 hs
    change upd st.box i _ j = some C at hC
    by_cases hj : j = i
    · subst hj; exact h.apart j B c s t e hB r1 hs
    · rw [upd_ne _ _ _ _ hj] at hC; exact h.apart j C c s t e hC r1 hs
  · intro j hj
    change upd st.box i _ j = none at hj
    by_cases hji : j = i
    · rw [hji, upd_same] at hj; cases hj
    · rw [upd_ne _ _ _ _ hji] at hj; exact h.nolam j hj
  · intro c o hp
    have := h.prlt c o hp
    rw [hw.size]; exact this
  · refine ⟨hw.os.trans h.keep.os, hw.tape.trans h.keep.tape, hw.output.trans h.keep.output, h.keep.drawn.trans hw.drawn, by rw [hw.size]; exact h.keep.size, fun k hk hn hh => ?_⟩
    have hne : k ≠ b := by
      rintro rfl
      rcases q6 with q6 | q6
      · exact Nat.lt_irrefl _ (Nat.lt_of_lt_of_le hk q6)
      · exact hn q6
    rw [hw.block k hne]
    exact h.keep.block k hk hn hh
theorem SRel.setBox (h : SRel P F st a w pr lam) {i b : Nat} {B : Box} {cur cur' : Array Value} {cs : List V} (hB : st.box i = some B) (hty : B.ty < mapTy) (hl : lam i = some b) (hg : w.heap[b]? = some (.cells cur B.ty (0, 0)))
    (hr : RL ⟨w, pr, lam⟩ cs cur'.toList) (h1 : ∀ y ∈ cur'.toList, y.oneCell' = true) : SRel P F (st.setBox i ⟨cs, B.ty⟩) a (w.setRow b cur') pr lam :=
  h.setObj hB hl (Swap.setRow w b cur') fun hle => ⟨fun _ => ⟨cur', setRow_heap w b cur cur' B.ty (0, 0) hg, hr.mono hle, h1⟩, fun ht => absurd hty (Nat.not_lt.2 ht)⟩
theorem opok_store {o : Oper} {K : St → Prop} {t : TypeId} {x y : Operand} {i off n : Nat} {B : Box} {v : V} (ho : o.op = .store t x y) (hx : st.eval x = .loc i off) (hy : st.eval y = v) (hB : st.box i = some B)
    (hv : v.csize = some n) (hs : sizeT P t = some n) (hfit : off + n ≤ B.cells.length) (hty : B.ty < mapTy) (hd : o.dst = none)
    (hk : K (st.setBox i ⟨B.cells.take off ++ v.cellsL ++ B.cells.drop (off + n), B.ty⟩)) : OpOK P n' o st K := by
  intro F a w pr lam hF h next Q hn
  subst hF
  have hx' := h.eval x
  have hy' := h.eval y
  rw [hx] at hx'; rw [hy] at hy'
  simp only [R] at hx'
  obtain ⟨b, hl, e1⟩ := hx'
  obtain ⟨b', q1, hat, q5, q6⟩ := h.box i B hB
  obtain ⟨cur, q2, q3, q4⟩ := hat.cells hty
  obtain rfl : b = b' := by rw [show lam i = some b from hl] at q1; cases q1; rfl
  obtain ⟨r1, r2⟩ := hy'.cells hv
  have hsz := hy'.csize hv
  have hlen : B.cells.length = cur.size := by simpa using q3.length
  have hr : (execOp a.eval o).run P w = .ok .skip (w.setRow b (cur.toList.take off ++ (a.eval y).cells.toList ++ cur.toList.drop (off + n)).toArray) := by
    simp only [execOp, ho, e1]
    simp only [Instr.storeAt, Instr.sureAddr, Sem.run_bind, Sem.run_pure, Result.andThen_ok, run_storeVar hs hsz q2 (by omega : off + n ≤ cur.size) r2]
  unfold Oper.wp
  rw [hr, Oper.upon_skip, hd]
  refine hn _ _ _ pr lam hk (h.setBox hB hty hl q2 ?_ ?_)
  · simpa using ((q3.take off).append r1).append (q3.drop (off + n))
  · intro z hz
    simp only [List.mem_append] at hz
    rcases hz with (hz | hz) | hz
    · exact q4 z (List.mem_of_mem_take hz)
    · exact r2 z hz
    · exact q4 z (List.mem_of_mem_drop hz)
end
end Go.Eng
