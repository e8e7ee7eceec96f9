import Derived.Test.YtjcbpfhlgebgdaaE13S
set_option linter.unusedSimpArgs false
set_option linter.unusedVariables false
namespace Go.Eng
open Go.RowKit
structure LeftM (w : World) (pr : Nat → Nat → Prop) (lam : Nat → Option Nat) (hb : Option Nat) (w' : World) (pr' : Nat → Nat → Prop) : Prop where
  os : w'.os = w.os
  tape : w'.tape = w.tape
  output : w'.output = w.output
  drawn : DLE w w'
  size : w.heap.size ≤ w'.heap.size
  block : ∀ k, k < w.heap.size → (∀ i, lam i ≠ some k) → hb ≠ some k → w'.heap[k]? = w.heap[k]?
  sub : ∀ b o, pr b o → hb ≠ some b → pr' b o
  new : ∀ b o, pr' b o → (pr b o ∧ hb ≠ some b) ∨ (w.heap.size ≤ b ∧ b < w'.heap.size) ∨ hb = some b
def prM (pr : Nat → Nat → Prop) (hb : Option Nat) : Nat → Nat → Prop := fun b o => pr b o ∧ hb ≠ some b
def FnM (P : Program) (f : FuncId) (args : List V) (ins : List Box) (p : Nat) (e : TypeId) (res : V) (outs : List Box) : Prop :=
  ∀ (w : World) (pr : Nat → Nat → Prop) (lam : Nat → Option Nat) (cargs : Array Value), HL w pr →
    Own P (fun g => (∀ k vs, GL k = some vs → g ≠ k) ∧ ∀ i, lam i ≠ some g) ⟨w, pr, lam⟩ 0 e (cargs.getD p undef) →
    RL ⟨w, pr, lam⟩ args cargs.toList →
    (∀ j v, j ≠ p → args[j]? = some v → R ⟨w, prM pr (gblock 0 (cargs.getD p undef)), lam⟩ v (cargs.getD j undef)) →
    InRel w pr lam ins → (∀ i j b, lam i = some b → lam j = some b → i = j) → (∀ i, ins.length ≤ i → lam i = none) →
    Calls P f cargs w fun en w' => ∃ v pr', en = .returned v ∧ R ⟨w', pr', lam⟩ res v ∧ InRel w' pr' lam outs ∧
      LeftM w pr lam (gblock 0 (cargs.getD p undef)) w' pr' ∧ Own P (fun g => w.heap.size ≤ g ∨ gblock 0 (cargs.getD p undef) = some g) ⟨w', pr', lam⟩ 0 e v
def St.initM (args : List V) (ins : List Box) (p : Nat) (e : TypeId) : St := { nb := ins.length, sl := fun s => (args.getD s .un, if s = p then some (p, e) else some (2000000, 0)), box := fun i => ins[i]? }
def endM (P : Program) (rs : List ResultVar) (res : V) (e : TypeId) (outs : List Box) : Exit → St → Prop
  | .ret, st | .normal, st => (∃ s t, rs = [.tmp s] ∧ st.env s = res ∧ st.tok s = some (t, e) ∧ tcl t = 0) ∧ ∀ i B, outs[i]? = some B → st.box i = some B
  | _, _ => False
theorem gblock2 (x : Value) : gblock 2 x = none := by unfold gblock; split <;> simp
theorem initM_tok {args : List V} {ins : List Box} {p s t : Nat} {e e' : TypeId} (h : (St.initM args ins p e).tok s = some (t, e')) : (s = p ∧ t = p ∧ e' = e) ∨ (s ≠ p ∧ t = 2000000) := by
  change (if s = p then some (p, e) else some (2000000, 0)) = some (t, e') at h
  split at h
  · rename_i hsp; cases h; exact .inl ⟨hsp, rfl, rfl⟩
  · rename_i hsp; cases h; exact .inr ⟨hsp, rfl⟩
theorem FnM.of_AWp {P : Program} {f : FuncId} {fn : Func} {c : Code} {args : List V} {ins outs : List Box} {p : Nat} {e : TypeId} {res : V} (hf : P.funcs[f]? = some fn) (hbd : fn.body = some c)
    (hsz : args.length ≤ fn.ntmps) (hp : p < 1000000) (hpa : p < args.length) (hnl : res.noLoc = true) (hno : ∀ B ∈ outs, V.noLocL B.cells = true) (hio : outs.length ≤ ins.length)
    (h : AWp P fn.ntmps c (St.initM args ins p e) (endM P fn.results.toList res e outs)) : FnM P f args ins p e res outs := by
  intro w pr lam cargs hlt hown hargs hoth hins hinj hlam
  have hal := hargs.length
  simp at hal
  have hpt : (cargs ++ Array.replicate (fn.ntmps - cargs.size) undef).getD p undef = cargs.getD p undef := by
    rw [Array.getD_eq_getD_getElem?, Array.getElem?_append, if_pos (by omega), ← Array.getD_eq_getD_getElem?]
  generalize hhb : gblock 0 (cargs.getD p undef) = hb at *
  have hmine : ∀ b, hb = some b → (∀ k vs, GL k = some vs → b ≠ k) ∧ ∀ i, lam i ≠ some b := fun b hq => by
    subst hq
    exact (hown b hhb).1
  have hgl : ∀ g vs, GL g = some vs → (∃ ty, w.heap[g]? = some (.cells vs.toArray ty (0, 0))) ∧ (¬ (∃ i, lam i = some g) ∧ hb ≠ some g) ∧ ∀ i, i < vs.length → prM pr hb g i := fun g vs hg => by
    obtain ⟨h1, h2⟩ := hlt.glob g vs hg
    have hne : hb ≠ some g := fun hq => (hmine g hq).1 g vs hg rfl
    refine ⟨h1, ⟨fun ⟨i, hi⟩ => ?_, hne⟩, fun i hi => ⟨h2 i hi, hne⟩⟩
    have hil : i < ins.length := by
      rcases Nat.lt_or_ge i ins.length with q | q
      · exact q
      · rw [hlam i q] at hi; cases hi
    obtain ⟨b, q1, _, q3⟩ := hins i _ (List.getElem?_eq_getElem hil)
    rw [hi] at q1; cases q1
    exact q3 0 (h2 0 (GL_pos g vs hg))
  let F : Fr := { nt := fn.ntmps, lam0 := lam, w0 := w, pr0 := prM pr hb, io := fun b => ∃ i, lam i = some b, hd := hb, hd0 := fun b o hq k => k.2 hq, lt0 := fun b o k => hlt.lt b o k.1, gl := hgl }
  have getA : ∀ s (hs : s < args.length), (cargs ++ Array.replicate (fn.ntmps - cargs.size) undef).getD s undef = cargs.getD s undef := fun s hs => by
    rw [Array.getD_eq_getD_getElem?, Array.getElem?_append, if_pos (by omega), ← Array.getD_eq_getD_getElem?]
  have getB : ∀ s, ¬ s < args.length → (cargs ++ Array.replicate (fn.ntmps - cargs.size) undef).getD s undef = undef := fun s hs => by
    rw [Array.getD_eq_getD_getElem?, Array.getElem?_append, if_neg (by omega), Array.getElem?_replicate]
    split <;> rfl
  have henvs : ∀ s, (St.initM args ins p e).env s = args.getD s .un := fun s => rfl
  have henv0 : ∀ s, R ⟨w, pr, lam⟩ ((St.initM args ins p e).env s) ((cargs ++ Array.replicate (fn.ntmps - cargs.size) undef).getD s undef) := by
    intro s
    rw [henvs]
    by_cases hlt' : s < args.length
    · have : args.getD s .un = args[s] := by simp [List.getD, List.getElem?_eq_getElem hlt']
      rw [this, getA s hlt']
      obtain ⟨x, hx, hr⟩ := hargs.get s _ (List.getElem?_eq_getElem hlt')
      have hx' : cargs[s]? = some x := by simpa using hx
      rw [Array.getD_eq_getD_getElem?, hx']
      exact hr
    · have : args.getD s .un = .un := by simp [List.getD, List.getElem?_eq_none (by omega : args.length ≤ s)]
      rw [this, getB s hlt']
      simp only [R]
  have hold0 : ∀ s, s ≠ p → R ⟨w, prM pr hb, lam⟩ ((St.initM args ins p e).env s) ((cargs ++ Array.replicate (fn.ntmps - cargs.size) undef).getD s undef) := by
    intro s hsp
    rw [henvs]
    by_cases hlt' : s < args.length
    · have : args.getD s .un = args[s] := by simp [List.getD, List.getElem?_eq_getElem hlt']
      rw [this, getA s hlt']
      exact hoth s _ hsp (List.getElem?_eq_getElem hlt')
    · have : args.getD s .un = .un := by simp [List.getD, List.getElem?_eq_none (by omega : args.length ≤ s)]
      rw [this, getB s hlt']
      simp only [R]
  have tp : tcl p = 0 := by unfold tcl; omega
  have t2 : tcl 2000000 = 2 := rfl
  have hs : SRel P F (St.initM args ins p e) { tmps := cargs ++ Array.replicate (fn.ntmps - cargs.size) undef, defers := [] } w pr lam := {
    size := by
      show (cargs ++ Array.replicate (fn.ntmps - cargs.size) undef).size = fn.ntmps
      simp; omega
    defers := rfl
    env := henv0
    own := fun s t e' hs => by
      rcases initM_tok hs with ⟨h1, h2, h3⟩ | ⟨_, h2⟩
      · rw [h1, h2, h3]
        intro g hg
        rw [tp] at hg
        change gblock 0 ((cargs ++ Array.replicate (fn.ntmps - cargs.size) undef).getD p undef) = some g at hg
        rw [hpt] at hg
        obtain ⟨_, q⟩ := hown g hg
        refine ⟨.inr (hhb.symm.trans hg), ?_⟩
        show ∃ n cap cur sz, (cargs ++ Array.replicate (fn.ntmps - cargs.size) undef).getD p undef = _ ∧ _
        rw [hpt]
        exact q
      · rw [h2]
        intro g hg
        rw [t2, gblock2] at hg; cases hg
    coh := fun s s' t t' e1 e2 g hs hs' hg hg' => by
      rcases initM_tok hs with ⟨rfl, rfl, rfl⟩ | ⟨_, rfl⟩ <;> rcases initM_tok hs' with ⟨_, rfl, _⟩ | ⟨_, rfl⟩
      · rfl
      · rw [t2, gblock2] at hg'; cases hg'
      · rw [t2, gblock2] at hg; cases hg
      · rfl
    box := fun i B hB => by
      obtain ⟨b, q1, q2, q5⟩ := hins i B hB
      exact ⟨b, q1, q2, q5, .inr ⟨i, q1⟩⟩
    inj := fun i j B B' b _ _ h1 h2 => hinj i j b h1 h2
    apart := fun i B b s t e' hB hl hs hg => by
      rcases initM_tok hs with ⟨h1, h2, h3⟩ | ⟨_, h2⟩
      · rw [h1, h2, tp] at hg
        change gblock 0 ((cargs ++ Array.replicate (fn.ntmps - cargs.size) undef).getD p undef) = some b at hg
        rw [hpt] at hg
        exact (hown b hg).1.2 i hl
      · rw [h2, t2, gblock2] at hg; cases hg
    nolam := fun i hi => by
      refine hlam i ?_
      have : ins[i]? = none := hi
      simpa using this
    prlt := hlt.lt
    keep := ⟨rfl, rfl, rfl, DLE.refl w, Nat.le_refl _, fun _ _ _ _ => rfl⟩
    prsub := fun b o k => k.1
    prnew := fun b o k => by
      by_cases hq : hb = some b
      · exact .inr (.inr hq)
      · exact .inl ⟨k, hq⟩
    lamsub := fun _ _ k => k
    coh2 := fun s s' t e1 e2 hs hs' hc => by
      rcases initM_tok hs with ⟨rfl, rfl, rfl⟩ | ⟨_, rfl⟩
      · rcases initM_tok hs' with ⟨rfl, _, _⟩ | ⟨_, q⟩
        · rfl
        · omega
      · rw [t2] at hc; cases hc
    old := fun s t e' hs hc => by
      rcases initM_tok hs with ⟨rfl, rfl, rfl⟩ | ⟨hsp, rfl⟩
      · rw [tp] at hc; cases hc
      · exact hold0 s hsp
    ptr := fun s s' t e1 e2 b o g hs => by
      rcases initM_tok hs with ⟨_, q, _⟩ | ⟨_, q⟩ <;> omega }
  have hwp := h F _ w pr lam rfl hs
  refine calls_of_wp hf hbd (wp_mono hwp ?_)
  rintro ex a' w' ⟨st', pr', lam', hq, hr⟩
  have hq' : (ex = .ret ∨ ex = .normal) ∧ (∃ s t, fn.results.toList = [.tmp s] ∧ st'.env s = res ∧ st'.tok s = some (t, e) ∧ tcl t = 0) ∧ ∀ i B, outs[i]? = some B → st'.box i = some B := by
    cases ex <;> first | exact ⟨.inl rfl, hq⟩ | exact ⟨.inr rfl, hq⟩ | exact hq.elim
  obtain ⟨hex, ⟨s, t, h1, h2, h3, h4⟩, hout⟩ := hq'
  have hres : resV st' P fn.results.toList = some res := by
    rw [h1]
    simp only [resV, resAll, resOne, Option.some.injEq]
    first | rfl | simp [h2]
  obtain ⟨x, hx, hrx⟩ := results_run hr hres
  have hxs : x = a'.tmps.getD s undef := by
    have hfr : fn.results = #[.tmp s] := by
      rw [← Array.toList_inj, h1]
    simp [results, hfr, Sem.run_pure] at hx
    rw [← hx]
    simp
  have fin : a'.defers = [] ∧ ∃ v, (results fn a'.tmps).run P w' = .ok v w' ∧ ∃ v' pr'', Ending.returned v = .returned v' ∧ R ⟨w', pr'', lam⟩ res v' ∧ InRel w' pr'' lam outs ∧
      LeftM w pr lam hb w' pr'' ∧ Own P (fun g => w.heap.size ≤ g ∨ hb = some g) ⟨w', pr'', lam⟩ 0 e v' := by
    refine ⟨hr.defers, x, hx, x, pr', rfl, hrx.noLoc _ _ hnl, fun i B hB => ?_, ?_, ?_⟩
    · obtain ⟨b, q1, q2, q5, _⟩ := hr.box i B (hout i B hB)
      have hil : i < ins.length := by
        have := (List.getElem?_eq_some_iff.1 hB).1
        omega
      obtain ⟨b0, p1, _⟩ := hins i _ (List.getElem?_eq_getElem hil)
      have hbb : b0 = b := by
        have := hr.lamsub i b0 p1
        rw [q1] at this; cases this; rfl
      subst hbb
      exact ⟨b0, p1, q2.noLoc (hno B (List.mem_of_getElem? hB)), q5⟩
    · refine ⟨hr.keep.os, hr.keep.tape, hr.keep.output, hr.keep.drawn, hr.keep.size, fun k hk hn hh => hr.keep.block k hk (fun ⟨i, hi⟩ => hn i hi) hh, fun b o hp' hh => hr.prsub b o ⟨hp', hh⟩, fun b o hp' => ?_⟩
      rcases hr.prnew b o hp' with q | q | q
      · exact .inl q
      · exact .inr (.inl ⟨q, hr.prlt b o hp'⟩)
      · exact .inr (.inr q)
    · have := hr.own s t e h3
      rw [h4] at this
      rw [hxs]
      exact this
  rcases hex with rfl | rfl
  · exact fin
  · exact fin
def dropS (tk : Nat) (x : V × Option (Nat × TypeId)) : V × Option (Nat × TypeId) :=
  match x.2 with
  | some (t, e) => if t = tk then (.any, none) else keepS tk [] x
  | none => keepS tk [] x
def St.dropped (st : St) (tk : Nat) : St := { st with sl := fun s => dropS tk (st.sl s) }
theorem dropS_cases (tk : Nat) (x : V × Option (Nat × TypeId)) :
    dropS tk x = (.any, none) ∨
    (dropS tk x = x ∧ ((∃ t e, x.2 = some (t, e) ∧ t ≠ tk ∧ (tcl t = 2 ∨ (tcl t = 0 ∧ ∃ rs, x.1 = .list rs ∧ V.flatL rs = true))) ∨ x.1.flat = true) ∧ ∀ e, x.2 ≠ some (tk, e)) := by
  unfold dropS
  rcases keepS_cases tk [] x with ⟨e, q, q2⟩ | q | q
  · rw [q]; left; simp
  · left
    split
    · split
      · rfl
      · exact q
    · exact q
  · right
    obtain ⟨q1, q2, q3⟩ := q
    refine ⟨?_, q2, q3⟩
    split
    · rename_i t e hx
      rw [if_neg]
      · exact q1
      · rintro rfl
        exact q3 e hx
    · exact q1
section
variable {P : Program} {n' : Nat} {F : Fr} {st : St} {a : Act} {w : World} {pr : Nat → Nat → Prop} {lam : Nat → Option Nat}
theorem SRel.release (h : SRel P F st a w pr lam) {ss tk : Nat} {e : TypeId} (htk : st.tok ss = some (tk, e)) (hcl : tcl tk = 0) (hbf : ∀ i B, st.box i = some B → V.flatL B.cells = true) {hb : Option Nat} (hhb : gblock 0 (a.tmps.getD ss undef) = hb) :
    SRel P F (st.dropped tk) a w (prM pr hb) lam ∧ (∀ s t e', (st.dropped tk).tok s = some (t, e') → ∀ g, gblock (tcl t) (a.tmps.getD s undef) = some g → hb ≠ some g) ∧ (∀ i B b, st.box i = some B → lam i = some b → hb ≠ some b) ∧ (∀ b, hb = some b → F.mine b) := by
  have hmine : ∀ b, hb = some b → F.mine b := fun b hq => (h.own ss tk e htk b (by rw [hcl, hhb]; exact hq)).1
  have htok : ∀ s t e', (st.dropped tk).tok s = some (t, e') → st.tok s = some (t, e') ∧ t ≠ tk := by
    intro s t e' hs
    change (dropS tk (st.sl s)).2 = some (t, e') at hs
    rcases dropS_cases tk (st.sl s) with q | ⟨q, _, q3⟩ <;> rw [q] at hs
    · cases hs
    · exact ⟨hs, fun hq => by subst hq; exact q3 e' hs⟩
  have hne : ∀ s t e', st.tok s = some (t, e') → t ≠ tk → ∀ g, gblock (tcl t) (a.tmps.getD s undef) = some g → hb ≠ some g := by
    intro s t e' hs ht g hg hq
    exact ht (h.coh s ss t tk e' e g hs htk hg (by rw [hcl, hhb]; exact hq))
  have hsubpr : ∀ b o, F.pr0 b o → prM pr hb b o := fun b o hp => ⟨h.prsub b o hp, fun hq => F.mine_pr (hmine b hq) hp⟩
  refine ⟨{
    size := h.size
    defers := h.defers
    env := fun s => ?_
    own := fun s t e' hs g hg => ?_
    coh := fun s s' t t' e1 e2 g hs hs' => h.coh s s' t t' e1 e2 g (htok _ _ _ hs).1 (htok _ _ _ hs').1
    box := fun i B hB => ?_
    inj := h.inj
    apart := fun i B b s t e' hB hl hs => h.apart i B b s t e' hB hl (htok _ _ _ hs).1
    nolam := h.nolam
    prlt := fun b o hp => h.prlt b o hp.1
    keep := h.keep
    prsub := hsubpr
    prnew := fun b o hp => h.prnew b o hp.1
    lamsub := h.lamsub
    coh2 := fun s s' t e1 e2 hs hs' => h.coh2 s s' t e1 e2 (htok _ _ _ hs).1 (htok _ _ _ hs').1
    old := fun s t e' hs hc => ?_
    ptr := fun s s' t e1 e2 b o g hs hs' => h.ptr s s' t e1 e2 b o g (htok _ _ _ hs).1 (htok _ _ _ hs').1 },
    fun s t e' hs g hg => hne s t e' (htok s t e' hs).1 (htok s t e' hs).2 g hg, fun i B b hB hl hq => h.apart i B b ss tk e hB hl htk (by rw [hcl, hhb]; exact hq), hmine⟩
  · change R _ (dropS tk (st.sl s)).1 _
    rcases dropS_cases tk (st.sl s) with q | ⟨q, hcase, _⟩
    · rw [q]; simp [R]
    · rw [q]
      rcases hcase with ⟨t, e', hs, ht, h2 | ⟨h0, rs, hrs, hfl⟩⟩ | hfl
      · have := h.old s t e' hs h2
        exact R.mono (E := ⟨w, F.pr0, lam⟩) (E' := ⟨w, prM pr hb, lam⟩) ⟨fun _ _ h => h, hsubpr, fun _ _ _ => rfl⟩ _ _ this
      · have hR := h.env s
        change R _ (st.sl s).1 _ at hR
        rw [hrs] at hR ⊢
        simp only [R] at hR ⊢
        obtain ⟨base, cap2, e1, c1, c2, hbb⟩ := hR
        refine ⟨base, cap2, e1, c1, c2, ?_⟩
        rcases hbb with hbb | ⟨b, o, k, e2, hbb⟩
        · exact .inl hbb
        · refine .inr ⟨b, o, k, e2, ?_⟩
          by_cases hrs0 : rs = []
          · subst hrs0; simp [RR]
          have hpos : 0 < rs.length := List.length_pos_iff.2 hrs0
          have hgb : gblock (tcl t) (a.tmps.getD s undef) = some b := by
            rw [e1, e2, h0]
            simp only [gblock]
            rw [if_pos (.inl ⟨trivial, by omega⟩)]
          have hbg := hne s t e' hs ht b hgb
          refine RR.of_get fun i r hi => ?_
          obtain ⟨y, p1, p2, p3⟩ := hbb.get i r hi
          refine ⟨y, R.flat r y (flatL_mem hfl r (List.mem_of_getElem? hi)) p1, p2, fun j z hz => ?_⟩
          obtain ⟨p4, p5⟩ := p3 j z hz
          exact ⟨⟨p4.1, p4.2, hbg⟩, p5⟩
      · exact R.flat _ _ hfl (h.env s)
  · obtain ⟨r1, n, cap, cu, sz, r2, r3, r4, r5, r6⟩ := h.own s t e' (htok s t e' hs).1 g hg
    exact ⟨r1, n, cap, cu, sz, r2, r3, r4, r5, fun o ho hp => r6 o ho hp.1⟩
  · obtain ⟨b, r1, r2, r5, r6⟩ := h.box i B hB
    exact ⟨b, r1, BoxAt.flat rfl (hbf i B hB) r2, fun o hp => r5 o hp.1, r6⟩
  · have hs' := htok s t e' hs
    have hhold := h.old s t e' hs'.1 hc
    change R _ (dropS tk (st.sl s)).1 _
    change (dropS tk (st.sl s)).2 = some (t, e') at hs
    rcases dropS_cases tk (st.sl s) with q | ⟨q, _⟩
    · rw [q] at hs; cases hs
    · rw [q]; exact hhold
theorem SRel.calledM {w' : World} {pr' : Nat → Nat → Prop} {lam' : Nat → Option Nat} {hb : Option Nat} (h : SRel P F st a w (prM pr hb) lam) (htb : ∀ s t e', st.tok s = some (t, e') → ∀ g, gblock (tcl t) (a.tmps.getD s undef) = some g → hb ≠ some g)
    (hbb : ∀ i B b, st.box i = some B → lam i = some b → hb ≠ some b) (hmine : ∀ b, hb = some b → F.mine b) (hblt : ∀ b, hb = some b → b < w.heap.size) {π : List Nat} {ins outs : List Box} (hπ : π.Nodup) (hbx : boxesOK st π ins)
    (hlen : outs.length = ins.length) (hno : ∀ B ∈ outs, V.noLocL B.cells = true) (hlam : ∀ i, lam' i = (π[i]?).bind lam) (hout : InRel w' pr' lam' outs) (hleft : LeftM w pr lam' hb w' pr') :
    SRel P F (st.setBoxes π outs) a w' pr' lam := by
  obtain ⟨hl1, hl2⟩ := boxesOK_spec hbx
  have hblk : ∀ i b, lam' i = some b → ∃ j B, π[i]? = some j ∧ st.box j = some B ∧ lam j = some b := by
    intro i b hi
    rw [hlam] at hi
    cases hp : π[i]? with
    | none => rw [hp] at hi; cases hi
    | some j =>
      rw [hp] at hi
      have hlt : i < ins.length := by
        have := (List.getElem?_eq_some_iff.1 hp).1
        omega
      obtain ⟨j', q1, q2, _⟩ := hl2 i _ (List.getElem?_eq_getElem hlt)
      rw [hp] at q1; cases q1
      exact ⟨j, _, rfl, q2, hi⟩
  have hbox : ∀ j, (st.setBoxes π outs).box j = none ↔ st.box j = none := by
    intro j
    by_cases hj : j ∈ π
    · obtain ⟨i, hi⟩ := List.getElem?_of_mem hj
      rw [setBoxes_at π outs st i j hπ (by omega) hi]
      have hlt : i < π.length := (List.getElem?_eq_some_iff.1 hi).1
      obtain ⟨j', q1, q2, _⟩ := hl2 i _ (List.getElem?_eq_getElem (by omega : i < ins.length))
      rw [hi] at q1; cases q1
      rw [q2]
      simp; omega
    · rw [setBoxes_not π outs st hj]
  have hsome : ∀ j B, (st.setBoxes π outs).box j = some B → ∃ B', st.box j = some B' := by
    intro j B hB
    cases hq : st.box j with
    | none => rw [(hbox j).2 hq] at hB; cases hB
    | some B' => exact ⟨B', rfl⟩
  have hle : Env.Le ⟨w, prM pr hb, lam⟩ ⟨w', pr', lam⟩ := by
    refine ⟨fun _ _ h => h, fun b o hp => hleft.sub b o hp.1 hp.2, fun b o hp => ?_⟩
    have hblock := hleft.block b (h.prlt b o hp) (fun i hi => by
      obtain ⟨j, B, _, q2, q3⟩ := hblk i b hi
      obtain ⟨b', r1, _, r3, _⟩ := h.box j B q2
      rw [q3] at r1; cases r1
      exact r3 o hp) hp.2
    show w'.cell? _ = w.cell? _
    unfold World.cell?
    rw [hblock]
  have henv : ∀ s, (st.setBoxes π outs).env s = st.env s := fun s => by unfold St.env; rw [setBoxes_sl]
  have htok : ∀ s, (st.setBoxes π outs).tok s = st.tok s := fun s => by unfold St.tok; rw [setBoxes_sl]
  refine {
    size := h.size
    defers := h.defers
    env := fun s => by rw [henv]; exact (h.env s).mono hle
    own := fun s t e hs g hg => ?_
    coh := fun s s' t t' e e' g hs hs' => h.coh s s' t t' e e' g (htok s ▸ hs) (htok s' ▸ hs')
    box := fun j B hB => ?_
    inj := fun i j B B' b hB hB' q1 q2 => ?_
    apart := fun i B b s t e hB q1 hs => ?_
    nolam := fun i hi => h.nolam i ((hbox i).1 hi)
    prlt := fun b o hp => ?_
    keep := ?_
    prsub := fun b o hp => hle.pr b o (h.prsub b o hp)
    prnew := fun b o hp => ?_
    lamsub := h.lamsub
    coh2 := fun s s' t e e' hs hs' => h.coh2 s s' t e e' (htok s ▸ hs) (htok s' ▸ hs')
    old := fun s t e hs hc => ?_
    ptr := fun s s' t e e' b o g hs hs' => h.ptr s s' t e e' b o g (htok s ▸ hs) (htok s' ▸ hs') }
  · rw [htok] at hs
    obtain ⟨r1, n, cap, cu, sz, r2, r3, r4, r5, r6⟩ := h.own s t e hs g hg
    have hlt : g < w.heap.size := (Array.getElem?_eq_some_iff.1 r3).1
    have hgb := htb s t e hs g hg
    refine ⟨r1, n, cap, cu, sz, r2, ?_, r4, r5, fun o ho hp => ?_⟩
    · show w'.heap[g]? = _
      rw [hleft.block g hlt (fun i hi => ?_) hgb]
      · exact r3
      · obtain ⟨j, B, _, q2, q3⟩ := hblk i g hi
        exact h.apart j B g s t e q2 q3 hs hg
    · rcases hleft.new g o hp with hp | ⟨hp, _⟩ | hp
      · exact r6 o ho hp
      · omega
      · exact hgb hp
  · by_cases hj : j ∈ π
    · obtain ⟨i, hi⟩ := List.getElem?_of_mem hj
      rw [setBoxes_at π outs st i j hπ (by omega) hi] at hB
      obtain ⟨b, q1, q2, q3⟩ := hout i B hB
      obtain ⟨j', B', p1, p2, p3⟩ := hblk i b q1
      rw [hi] at p1; cases p1
      obtain ⟨b', r1, _, _, r4⟩ := h.box j B' p2
      rw [p3] at r1; cases r1
      exact ⟨b, p3, q2.noLoc (hno B (List.mem_of_getElem? hB)), q3, r4⟩
    · rw [setBoxes_not π outs st hj] at hB
      obtain ⟨b, r1, r2, r3, r4⟩ := h.box j B hB
      have hgb := hbb j B b hB r1
      refine ⟨b, r1, r2.mono hle (hleft.block b r2.lt (fun i hi => ?_) hgb), fun o hp => ?_, r4⟩
      · obtain ⟨j', B', p1, p2, p3⟩ := hblk i b hi
        have := h.inj j j' B B' b hB p2 r1 p3
        subst this
        exact hj (List.mem_of_getElem? p1)
      · have h2 : b < w.heap.size := r2.lt
        rcases hleft.new b o hp with hp | ⟨hp, _⟩ | hp
        · exact r3 o hp
        · omega
        · exact hgb hp
  · obtain ⟨C, hC⟩ := hsome i B hB
    obtain ⟨C', hC'⟩ := hsome j B' hB'
    exact h.inj i j C C' b hC hC' q1 q2
  · rw [htok] at hs
    obtain ⟨C, hC⟩ := hsome i B hB
    exact h.apart i C b s t e hC q1 hs
  · rcases hleft.new b o hp with hp | ⟨_, hp⟩ | hp
    · exact Nat.lt_of_lt_of_le (h.prlt b o hp) hleft.size
    · exact hp
    · exact Nat.lt_of_lt_of_le (hblt b hp) hleft.size
  · refine ⟨hleft.os.trans h.keep.os, hleft.tape.trans h.keep.tape, hleft.output.trans h.keep.output, h.keep.drawn.trans hleft.drawn, Nat.le_trans h.keep.size hleft.size, fun k hk hn hh => ?_⟩
    rw [hleft.block k (Nat.lt_of_lt_of_le hk h.keep.size) (fun i hi => ?_) (fun hq => F.mine_keep (hmine k hq) hk hh rfl)]
    · exact h.keep.block k hk hn hh
    · obtain ⟨j, B, _, q2, q3⟩ := hblk i k hi
      obtain ⟨b, r1, _, _, r4⟩ := h.box j B q2
      rw [q3] at r1; cases r1
      rcases r4 with r4 | r4
      · exact Nat.lt_irrefl _ (Nat.lt_of_lt_of_le hk r4)
      · exact hn r4
  · rcases hleft.new b o hp with hp | ⟨hp, _⟩ | hp
    · exact h.prnew b o hp
    · exact .inr (.inl (Nat.le_trans h.keep.size hp))
    · exact .inr (hmine b hp)
  · rw [henv]
    exact (h.old s t e (htok s ▸ hs) hc).old (fun _ _ h => h) (fun b o hp => hle.cell b o (h.prsub b o hp))
theorem renL_map (f : Nat → Nat) : ∀ cs : List V, V.renL f cs = cs.map (V.ren f)
  | [] => by simp [V.renL]
  | c :: cs => by simp [V.renL, renL_map f cs]
theorem boxesOK_box {st st' : St} (hb : ∀ i, st'.box i = st.box i) : ∀ {π : List Nat} {bs : List Box}, boxesOK st π bs → boxesOK st' π bs
  | [], [], _ => trivial
  | [], _ :: _, h => h.elim
  | _ :: _, [], h => h.elim
  | i :: π, B :: bs, h => ⟨⟨(hb i).trans h.1.1, h.1.2⟩, boxesOK_box hb h.2⟩
theorem opok_callM {o : Oper} {K : St → Prop} {c : Operand} {args : Array Operand} {tys : Array TypeId} {f : FuncId} {p ss tk tn : Nat} {e : TypeId} {rows : List V} {cap : List V} (ho : o.op = .call { callee := .value c, args := args, argTypes := tys })
    (hc : st.eval c = .fn (.func f) [] cap) (hd : ∀ d, o.dst = some d → d < n') (hgo : isGo P f = true) (hp : args.toList[p]? = some (.tmp ss)) (hss : st.env ss = .list rows) (htk : st.tok ss = some (tk, e)) (hcl : tcl tk = 0) (hbf : ∀ i B, st.box i = some B → V.flatL B.cells = true)
    (htn : tcl tn = 0) {st1 : St} (hw1 : ∀ {F : Fr} {a : Act} {w : World} {pr : Nat → Nat → Prop} {lam : Nat → Option Nat}, SRel P F (st.dropped tk) a w pr lam → SRel P F st1 a w pr lam) (hwt : ∀ s t e, st1.tok s = some (t, e) → (st.dropped tk).tok s = some (t, e)) (hwb : ∀ i, st1.box i = st.box i) {π : List Nat} {args' : List V} {ins outs : List Box} {res : V} (hπ : π.Nodup) (hnb : st.box st.nb = none)
    (hargs : ((args.toList.map st1.eval).set p (.list rows)) ++ cap = V.renL (fun i => π.getD i st.nb) args') (hbx : boxesOK st π ins) (hlen : outs.length = ins.length) (hno : ∀ B ∈ outs, V.noLocL B.cells = true) (hres : res.noLoc = true)
    (hcapf : V.flatL cap = true) (hf : FnM P f args' ins p e res outs) (hk : K (((st1.setBoxes π outs).clear tn).put o.dst res (some (tn, e)))) : OpOK P n' o st K := by
  intro F a w pr lam hF h next Q hn
  subst hF
  have h1 := h.eval c
  rw [hc] at h1
  simp only [R] at h1
  obtain ⟨xs, ys, e1, q1, q2⟩ := h1
  simp only [RL] at q1
  subst q1
  generalize hhb : gblock 0 (a.tmps.getD ss undef) = hb
  obtain ⟨hr0, htb0, hbb0, hmine⟩ := h.release htk hcl hbf hhb
  have hr := hw1 hr0
  have htb : ∀ s t e', st1.tok s = some (t, e') → ∀ g, gblock (tcl t) (a.tmps.getD s undef) = some g → hb ≠ some g := fun s t e' hq => htb0 s t e' (hwt s t e' hq)
  have hbb : ∀ i B b, st1.box i = some B → lam i = some b → hb ≠ some b := fun i B b hq => hbb0 i B b (by rw [← hwb]; exact hq)
  have hplt : p < args.size := by
    have := (List.getElem?_eq_some_iff.1 hp).1
    simpa using this
  have hopp : args[p]? = some (.tmp ss) := by simpa using hp
  generalize hca : (([] : List Value).toArray ++ args.map a.eval ++ ys.toArray) = cargs
  have hcl' : cargs.toList = args.toList.map a.eval ++ ys := by rw [← hca]; simp
  have hcp : cargs.getD p undef = a.tmps.getD ss undef := by
    rw [Array.getD_eq_getD_getElem?, ← Array.getElem?_toList, hcl', List.getElem?_append_left (by simpa using hplt), List.getElem?_map, hp]
    rfl
  have hq2' : RL ⟨w, prM pr hb, lam⟩ cap ys := RL.flat cap ys hcapf q2
  have hrl : ∀ (l : List Operand) , RL ⟨w, prM pr hb, lam⟩ (l.map st1.eval) (l.map a.eval) := by
    intro l
    exact RL_map_eval (ρ := st1.eval) (E := ⟨w, prM pr hb, lam⟩) (ac := a) l fun x _ => hr.eval x
  have hoth : ∀ j v, j ≠ p → (((args.toList.map st1.eval).set p (.list rows)) ++ cap)[j]? = some v → ∃ x, cargs.toList[j]? = some x ∧ R ⟨w, prM pr hb, lam⟩ v x := by
    intro j v hj hv
    rw [hcl']
    by_cases hlt : j < args.toList.length
    · rw [List.getElem?_append_left (by simpa using hlt), List.getElem?_set_ne (Ne.symm hj)] at hv
      rw [List.getElem?_append_left (by simpa using hlt)]
      exact (hrl args.toList).get j v hv
    · rw [List.getElem?_append_right (by simpa using Nat.le_of_not_lt hlt)] at hv
      rw [List.getElem?_append_right (by simpa using Nat.le_of_not_lt hlt)]
      simp only [List.length_set, List.length_map] at hv ⊢
      exact hq2'.get _ v hv
  have hwe : Env.Le ⟨w, prM pr hb, lam⟩ ⟨w, pr, lam⟩ := ⟨fun _ _ h => h, fun _ _ h => h.1, fun _ _ _ => rfl⟩
  have hlenA : cargs.toList.length = (((args.toList.map st1.eval).set p (.list rows)) ++ cap).length := by
    rw [hcl']
    have := q2.length
    simp [this]
  have hall : RL ⟨w, pr, lam⟩ (((args.toList.map st1.eval).set p (.list rows)) ++ cap) cargs.toList := by
    refine RL.of_get hlenA.symm fun j v x hv hx => ?_
    by_cases hj : j = p
    · subst hj
      rw [List.getElem?_append_left (by simpa using hplt), List.getElem?_set_self (by simpa using hplt)] at hv
      cases hv
      have hx' : cargs.getD j undef = x := by
        rw [Array.getD_eq_getD_getElem?, ← Array.getElem?_toList, hx]; rfl
      rw [← hx', hcp, ← hss]
      exact h.env ss
    · obtain ⟨x', hx', hR⟩ := hoth j v hj hv
      rw [hx] at hx'; cases hx'
      exact hR.mono hwe
  obtain ⟨hl1, hl2⟩ := boxesOK_spec hbx
  have hren : ∀ i b, ((π[i]?).bind lam) = some b ↔ lam (π.getD i st.nb) = some b := by
    intro i b
    cases hq : π[i]? with
    | none =>
      have : π.getD i st.nb = st.nb := by simp [List.getD, hq]
      rw [this, h.nolam _ hnb]
      simp
    | some j =>
      have : π.getD i st.nb = j := by simp [List.getD, hq]
      rw [this]
      simp
  unfold Oper.wp
  rw [exec_call ho e1 hgo, Oper.upon_enter, hca]
  rw [hargs] at hall hoth
  refine (hf w pr (fun i => (π[i]?).bind lam) cargs h.hl ?_ (RL.ren (fun i b hi => (hren i b).2 hi) _ _ hall) ?_ ?_ ?_ ?_).mono ?_
  · -- the slice is the caller's own
    rw [hcp]
    intro g hg
    obtain ⟨q1, q3⟩ := h.own ss tk e htk g (by rw [hcl]; exact hg)
    refine ⟨⟨fun k vs hq => F.mine_gl q1 hq, fun i hi => ?_⟩, q3⟩
    cases hq : π[i]? with
    | none => simp [hq] at hi
    | some j =>
      simp only [hq, Option.bind_some] at hi
      have hi1 : i < ins.length := by have := (List.getElem?_eq_some_iff.1 hq).1; omega
      obtain ⟨j', a1, a2, _⟩ := hl2 i _ (List.getElem?_eq_getElem hi1)
      rw [hq] at a1; cases a1
      exact h.apart j _ g ss tk e a2 hi htk (by rw [hcl]; exact hg)
  · intro j v hj hv
    rw [hcp, hhb]
    have hv' : (V.renL (fun i => π.getD i st.nb) args')[j]? = some (v.ren fun i => π.getD i st.nb) := by
      rw [renL_map, List.getElem?_map, hv]; rfl
    obtain ⟨x, hx, hR⟩ := hoth j _ hj hv'
    have hx' : cargs.getD j undef = x := by
      rw [Array.getD_eq_getD_getElem?, ← Array.getElem?_toList, hx]; rfl
    rw [hx']
    exact R.ren (fun i b hi => (hren i b).2 hi) _ _ hR
  · intro i B hB
    obtain ⟨j, p1, p2, p3⟩ := hl2 i B hB
    obtain ⟨b, r1, r2, r3, _⟩ := h.box j B p2
    exact ⟨b, by simp [p1, r1], r2.noLoc p3, r3⟩
  · intro i j b hi hj
    cases hp : π[i]? with
    | none => simp [hp] at hi
    | some p =>
      cases hq : π[j]? with
      | none => simp [hq] at hj
      | some q =>
        simp only [hp, Option.bind_some] at hi
        simp only [hq, Option.bind_some] at hj
        have hi1 : i < ins.length := by have := (List.getElem?_eq_some_iff.1 hp).1; omega
        have hj1 : j < ins.length := by have := (List.getElem?_eq_some_iff.1 hq).1; omega
        obtain ⟨p', a1, a2, _⟩ := hl2 i _ (List.getElem?_eq_getElem hi1)
        obtain ⟨q', b1, b2, _⟩ := hl2 j _ (List.getElem?_eq_getElem hj1)
        rw [hp] at a1; cases a1
        rw [hq] at b1; cases b1
        have := h.inj p q _ _ b a2 b2 hi hj
        subst this
        exact (List.getElem?_inj (by omega) hπ).1 (hp.trans hq.symm)
  · intro i hi
    have : π[i]? = none := by simp; omega
    simp [this]
  · rintro en w' ⟨v, pr', rfl, hrv, hout, hleft, hown⟩
    rw [hcp, hhb] at hleft hown
    have hblt : ∀ b, hb = some b → b < w.heap.size := fun b hq => by
      obtain ⟨_, n, cap', cur, sz, _, h3, _⟩ := h.own ss tk e htk b (by rw [hcl, hhb]; exact hq)
      exact (Array.getElem?_eq_some_iff.1 h3).1
    have hs := hr.calledM htb hbb hmine hblt hπ (boxesOK_box (st := st) (st' := st1) hwb hbx) hlen hno (fun i => rfl) hout hleft
    refine hn _ _ w' pr' lam hk ((hs.clear tn).put hd (hrv.noLoc _ _ hres) ?_)
    have htok : ∀ s t e', (st1.setBoxes π outs).tok s = some (t, e') → st1.tok s = some (t, e') := fun s t e' hq => by
      unfold St.tok at hq ⊢; rwa [setBoxes_sl] at hq
    refine ⟨?_, fun s t' e' g hs' h1 h2 => ?_, fun i B b hB hl hg => ?_, fun s e' hs' => absurd rfl (clear_tok hs').2.1, (fun hc' => by rw [htn] at hc'; cases hc'), (fun s e' b o g hs' => absurd rfl (clear_tok hs').2.2), fun s u e' b o g hu => ?_⟩
    · rw [htn]
      intro g hg
      obtain ⟨q1, q3⟩ := hown g hg
      refine ⟨?_, q3⟩
      rcases q1 with q1 | q1
      · exact .inl (Nat.le_trans h.keep.size q1)
      · exact hmine g q1
    · exfalso
      have hs'' := htok _ _ _ (clear_tok hs').1
      rw [htn] at h2
      obtain ⟨q1, _⟩ := hown g h2
      rcases q1 with q1 | q1
      · obtain ⟨_, n, cap', cur, sz, _, h3, _⟩ := hr.own s t' e' hs'' g h1
        have := (Array.getElem?_eq_some_iff.1 h3).1
        have h4 : g < w.heap.size := this
        omega
      · exact htb s t' e' hs'' g h1 q1
    · rw [htn] at hg
      obtain ⟨q1, _⟩ := hown b hg
      have hB' : ∃ B', st.box i = some B' := by
        cases hq : st.box i with
        | some B' => exact ⟨B', rfl⟩
        | none => have := h.nolam i hq; rw [hl] at this; cases this
      obtain ⟨B', hB'⟩ := hB'
      rcases q1 with q1 | q1
      · obtain ⟨b', r1, r2, _⟩ := h.box i B' hB'
        rw [hl] at r1; cases r1
        have h4 : b < w.heap.size := r2.lt
        omega
      · exact hbb0 i B' b hB' hl q1
    · exfalso
      have : tcl tn = 0 := htn
      rw [hu] at this
      unfold tcl at this
      omega
end
end Go.Eng
