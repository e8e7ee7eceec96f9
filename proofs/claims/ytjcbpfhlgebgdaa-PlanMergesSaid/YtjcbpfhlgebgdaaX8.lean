import Derived.Test.YtjcbpfhlgebgdaaX7
set_option linter.unusedSimpArgs false
set_option linter.unusedVariables false
namespace Go.X
open Go.Eng
open Go.RowKit
variable {β : Type}
section
variable {P : Program} {n' : Nat}
theorem awp_seq {x y : Code} {st : St} {Q : Exit → St → Prop} (h : AWp P n' x st (thenQ (fun st' => AWp P n' y st' Q) Q)) : AWp P n' (.seq x y) st Q := by
  intro F a w pr lam hF hs
  refine wp_seq (wp_mono (h F a w pr lam hF hs) ?_)
  rintro e a' w' ⟨st', pr', lam', q, r⟩
  cases e with
  | normal => exact q F a' w' pr' lam' hF r
  | exit id => exact ⟨st', pr', lam', q, r⟩
  | goto l => exact ⟨st', pr', lam', q, r⟩
  | ret => exact ⟨st', pr', lam', q, r⟩
  | panic c => exact ⟨st', pr', lam', q, r⟩
  | outgrown => exact ⟨st', pr', lam', q, r⟩
theorem awp_block {id : Nat} {x : Code} {st : St} {Q : Exit → St → Prop} (h : AWp P n' x st (blockQ id Q)) : AWp P n' (.block id x) st Q := by
  intro F a w pr lam hF hs
  refine wp_block (wp_mono (h F a w pr lam hF hs) ?_)
  rintro e a' w' ⟨st', pr', lam', q, r⟩
  cases e with
  | exit id' =>
    simp only [blockQ] at q
    simp only [Exit.inBlock]
    split at q
    · rename_i hid; rw [if_pos hid]; exact ⟨st', pr', lam', q, r⟩
    · rename_i hid; rw [if_neg hid]; exact ⟨st', pr', lam', q, r⟩
  | normal => exact ⟨st', pr', lam', q, r⟩
  | goto l => exact ⟨st', pr', lam', q, r⟩
  | ret => exact ⟨st', pr', lam', q, r⟩
  | panic c => exact ⟨st', pr', lam', q, r⟩
  | outgrown => exact ⟨st', pr', lam', q, r⟩
theorem awp_cond {c : Operand} {x y : Code} {st : St} {Q : Exit → St → Prop} {b : Bool} (hc : st.eval c = .bool b) (h1 : b = true → AWp P n' x st Q) (h2 : b = false → AWp P n' y st Q) : AWp P n' (.cond c x y) st Q := by
  intro F a w pr lam hF hs
  have hr := hs.eval c
  rw [hc] at hr
  simp only [R] at hr
  exact wp_cond_split hr (fun ht => h1 ht F a w pr lam hF hs) (fun hf => h2 hf F a w pr lam hF hs)
end
theorem readOut_write {old : Nat → Option SBox} {roI : RO} {mI m1 : Mm} {e : EX} {k : Exit → Mm → Option β} {r : β} : ∀ {es : List (EX × List LV)} {w : outT es}, readOut old roI mI e es = some w → writeOut old m1 k es w = some r →
    ∃ L, ∃ x : tupT L, (∃ e', (e', L) ∈ es) ∧ readL old roI mI L = some x ∧ k e.to (writeL old m1 L x) = some r
  | [], w, h, _ => by cases h
  | [(e0, L)], w, h, hk => by
    simp only [readOut] at h
    obtain ⟨h1, h2⟩ := condS h
    have he : e0 = e := by
      cases e0 <;> cases e <;> simp only [EX.beq, Bool.false_eq_true] at h1
      · rw [Nat.eq_of_beq_eq_true h1]
      · rfl
    subst he
    exact ⟨L, w, ⟨e0, by simp⟩, h2, hk⟩
  | (e0, L) :: f :: es, w, h, hk => by
    simp only [readOut] at h
    cases hb : e0.beq e with
    | true =>
      rw [hb] at h
      simp only [cond_true] at h
      have he : e0 = e := by
        cases e0 <;> cases e <;> simp only [EX.beq, Bool.false_eq_true] at hb
        · rw [Nat.eq_of_beq_eq_true hb]
        · rfl
      subst he
      split at h
      · rename_i x hx
        cases h
        simp only [writeOut, Sum.elim_inl] at hk
        exact ⟨L, x, ⟨e0, by simp⟩, hx, hk⟩
      · cases h
    | false =>
      rw [hb] at h
      simp only [cond_false] at h
      split at h
      · rename_i x hx
        cases h
        simp only [writeOut, Sum.elim_inr] at hk
        obtain ⟨L', y, ⟨e', q1⟩, q2, q3⟩ := readOut_write (es := f :: es) hx hk
        exact ⟨L', y, ⟨e', List.mem_cons_of_mem _ q1⟩, q2, q3⟩
      · cases h
theorem EX.of_to {ex : Exit} {e : EX} (h : EX.of ex = some e) : e.to = ex := by
  cases ex <;> simp only [EX.of, Option.some.injEq, reduceCtorEq] at h <;> subst h <;> rfl
theorem wipe_get : ∀ (l : List Nat) (sl : T (S × Tk)) (s : Nat), (wipe sl l).get s = if s ∈ l then some (.any, none) else sl.get s
  | [], sl, s => by simp [wipe]
  | x :: l, sl, s => by
    simp only [wipe]
    rw [wipe_get l, T.get_set]
    by_cases h1 : s ∈ l
    · simp [h1]
    · by_cases h2 : s = x
      · subst h2; simp
      · simp [h1, h2]
def okX (n' : Nat) : Code → Ann → Bool
  | .region id ops draw, a => bif draw && a.isFull then ops.toList.all (dstOK n') && Region.noSelect ops else bif draw && a.isSch then ops.toList.all (dstOK n') && Region.noSelect ops else bif a.isSch then ops.toList.all (dstOK n') else codeOK n' [] (.region id ops draw)
  | .seq x y, a => okX n' x a.l && okX n' y a.r.un
  | .cond _ x y, a => okX n' x a.l && okX n' y a.r
  | .block _ b, a => okX n' b a
  | .loop b, .loop _ _ _ _ a => okX n' b a
  | _, _ => true
theorem boxesOf_spec : ∀ {L : List LV} {i : Nat}, hasBox L i = true → i ∈ boxesOf L
  | [], i, h => by simp [hasBox] at h
  | .slot _ _ _ :: L, i, h => boxesOf_spec (L := L) h
  | .box j _ :: L, i, h => by
    simp only [hasBox, Bool.or_eq_true] at h
    rcases h with h | h
    · rw [Nat.eq_of_beq_eq_true h]; simp [boxesOf]
    · simp [boxesOf, boxesOf_spec h]
  | .mapb j _ _ :: L, i, h => by
    simp only [hasBox, Bool.or_eq_true] at h
    rcases h with h | h
    · rw [Nat.eq_of_beq_eq_true h]; simp [boxesOf]
    · simp [boxesOf, boxesOf_spec h]
section
variable {P : Program} {X : XCtx P}
theorem clrD_noTok {ro : RO} {m : Mm} {mu : Bool} (hro : ROok mu ro) (ops : Array Oper) : noTok ops (toSt ro ⟨m.sl.mapV (clrD ((ops.toList.filter newOp).map (·.dst))), m.bx⟩) := by
  intro s t e ht h2 o ho hno hd
  have ht' : (getS ro ⟨m.sl.mapV (clrD ((ops.toList.filter newOp).map (·.dst))), m.bx⟩ s).2 = some (t, e) := ht
  unfold getS at ht'
  cases hw : ro.own s with
  | false =>
    rw [hw] at ht'
    simp only [cond_false] at ht'
    rw [hro.tok s t e ht'] at h2
    omega
  | true =>
    rw [hw] at ht'
    simp only [cond_true, T.get_mapV] at ht'
    cases hg : m.sl.get s with
    | none => rw [hg] at ht'; cases ht'
    | some x =>
      rw [hg] at ht'
      simp only [Option.map_some, Option.getD_some] at ht'
      unfold clrD at ht'
      cases hx : x.2 with
      | none => rw [hx] at ht'; simp only at ht'; rw [hx] at ht'; cases ht'
      | some te =>
        obtain ⟨t', e'⟩ := te
        rw [hx] at ht'
        simp only at ht'
        cases hb : (Nat.blt (tcl t') 2 && inD ((ops.toList.filter newOp).map (·.dst)) t') with
        | true => rw [hb] at ht'; cases ht'
        | false =>
          rw [hb] at ht'
          simp only [cond_false] at ht'
          rw [hx] at ht'
          cases ht'
          rw [Bool.and_eq_false_iff] at hb
          rcases hb with hb | hb
          · have : Nat.blt (tcl t) 2 = true := Nat.ble_eq_true_of_le h2
            rw [this] at hb; cases hb
          · have : inD ((ops.toList.filter newOp).map (·.dst)) t = true := by
              unfold inD
              rw [List.any_eq_true]
              exact ⟨some (t % 1000000), List.mem_map.2 ⟨o, List.mem_filter.2 ⟨ho, hno⟩, hd⟩, Nat.beq_refl _⟩
            rw [this] at hb; cases hb
theorem clrD_Wk (ds : List (Option Nat)) (x : S × Tk) : Wk (pv (clrD ds x)) (pv x) := by
  unfold clrD
  split
  · generalize (Nat.blt _ 2 && _ : Bool) = b
    cases b with
    | true => exact .inr (.inl rfl)
    | false => exact .inl rfl
  · exact .inl rfl
theorem clrD_weak {ro : RO} {m : Mm} (ds : List (Option Nat)) (s : Nat) : Wk ((toSt ro ⟨m.sl.mapV (clrD ds), m.bx⟩).sl s) ((toSt ro m).sl s) := by
  show Wk (pv (getS ro ⟨m.sl.mapV (clrD ds), m.bx⟩ s)) (pv (getS ro m s))
  unfold getS
  cases hw : ro.own s with
  | false => exact .inl rfl
  | true =>
    simp only [cond_true, T.get_mapV]
    cases hg : m.sl.get s with
    | none => exact .inl rfl
    | some x => exact clrD_Wk ds x
def Loose (s2 s3 : St) : Prop := (∀ s, s3.env s = s2.env s ∧ s3.tok s = none) ∧ s3.box = s2.box
theorem AWp.reframe {n' : Nat} {c : Code} {st st' : St} {Q : Exit → St → Prop} (h1 : ∀ s, st'.env s = st.env s ∧ (st'.tok s = none ∨ ∃ e, st'.tok s = some (2000000, e))) (hb : st'.box = st.box)
    (h : AWp P n' c st' fun ex s2 => ∃ s3, Loose s2 s3 ∧ Q ex s3) : AWp P n' c st Q := by
  intro F a w pr lam hF hs
  have hl := hs.hl
  have hcl : ∀ s t e, st'.tok s = some (t, e) → t = 2000000 := fun s t e q => by
    rcases (h1 s).2 with q2 | ⟨e2, q2⟩
    · rw [q] at q2; cases q2
    · rw [q] at q2; cases q2; rfl
  have hgb : ∀ s t e, st'.tok s = some (t, e) → gblock (tcl t) (a.tmps.getD s undef) = none := fun s t e q => by
    rw [hcl s t e q, show tcl 2000000 = 2 from rfl]
    unfold gblock
    split
    · rw [if_neg (by omega)]
    · rfl
  have hgl : ∀ g vs, GL g = some vs → (∃ ty, w.heap[g]? = some (.cells vs.toArray ty (0, 0))) ∧ (¬ (F.io g ∨ F.N ≤ g) ∧ (none : Option Nat) ≠ some g) ∧ ∀ i, i < vs.length → pr g i := fun g vs hg => by
      obtain ⟨⟨ty, q1⟩, q2, q3⟩ := F.gl g vs hg
      obtain ⟨q4, q5⟩ := hl.glob g vs hg
      refine ⟨q4, ⟨?_, by simp⟩, q5⟩
      rintro (q | q)
      · exact q2.1 q
      · exact Nat.lt_irrefl _ (Nat.lt_of_lt_of_le (Array.getElem?_eq_some_iff.1 q1).1 q)
  let F' : Fr := ⟨F.nt, F.lam0, w, pr, fun b => F.io b ∨ F.N ≤ b, hs.prlt, none, fun b o q => (by cases q), hgl⟩
  have hsF : SRel P F' st' a w pr lam := {
    size := hs.size, defers := hs.defers
    env := fun s => by rw [(h1 s).1]; exact hs.env s
    own := fun s t e q g hg => by rw [hgb s t e q] at hg; cases hg
    coh := fun s s' t t' e e' g q q' hg => by rw [hgb s t e q] at hg; cases hg
    box := fun i B q => by
      rw [hb] at q
      obtain ⟨b, b1, b2, b3, b4⟩ := hs.box i B q
      refine ⟨b, b1, b2, b3, .inr ?_⟩
      rcases b4 with b4 | b4
      · exact .inr b4
      · exact .inl b4
    inj := fun i j B B' b q q' => by rw [hb] at q q'; exact hs.inj i j B B' b q q'
    apart := fun i B b s t e q q' q2 => by rw [hgb s t e q2]; simp
    nolam := fun i q => by rw [hb] at q; exact hs.nolam i q
    prlt := hs.prlt
    keep := ⟨rfl, rfl, rfl, DLE.refl _, Nat.le_refl _, fun _ _ _ _ => rfl⟩
    prsub := fun b o q => q
    prnew := fun b o q => .inl q
    lamsub := hs.lamsub
    coh2 := fun s s' t e e' q q' q2 => by rw [hcl s t e q] at q2; cases q2
    old := fun s t e q q2 => by rw [(h1 s).1]; exact hs.env s
    ptr := fun s s' t e e' b o g q => by have := hcl s _ _ q; omega }
  refine wp_mono (h F' a w pr lam hF hsF) ?_
  rintro ex a2 w2 ⟨s2, pr2, lam2, ⟨s3, ⟨l1, l2⟩, hq⟩, h2⟩
  have hk := h2.keep
  refine ⟨s3, pr2, lam2, hq, {
    size := h2.size, defers := h2.defers
    env := fun s => by rw [(l1 s).1]; exact h2.env s
    own := fun s t e q => by rw [(l1 s).2] at q; cases q
    coh := fun s s' t t' e e' g q => by rw [(l1 s).2] at q; cases q
    box := fun i B q => by
      rw [l2] at q
      obtain ⟨b, b1, b2, b3, b4⟩ := h2.box i B q
      refine ⟨b, b1, b2, b3, ?_⟩
      rcases b4 with b4 | b4 | b4
      · exact .inl (Nat.le_trans hs.keep.size b4)
      · exact .inr b4
      · exact .inl b4
    inj := fun i j B B' b q q' => by rw [l2] at q q'; exact h2.inj i j B B' b q q'
    apart := fun i B b s t e q q' q2 => by rw [(l1 s).2] at q2; cases q2
    nolam := fun i q => by rw [l2] at q; exact h2.nolam i q
    prlt := h2.prlt
    keep := ⟨hk.os.trans hs.keep.os, hk.tape.trans hs.keep.tape, hk.output.trans hs.keep.output, DLE.trans hs.keep.drawn hk.drawn, Nat.le_trans hs.keep.size hk.size, fun k q1 q2 q3 => ?_⟩
    prsub := fun b o q => h2.prsub b o (hs.prsub b o q)
    prnew := fun b o q => by
      rcases h2.prnew b o q with q | q
      · exact hs.prnew b o q
      · rcases q with q | q
        · exact .inr (.inl (Nat.le_trans hs.keep.size q))
        · cases q
    lamsub := h2.lamsub
    coh2 := fun s s' t e e' q => by rw [(l1 s).2] at q; cases q
    old := fun s t e q => by rw [(l1 s).2] at q; cases q
    ptr := fun s s' t e e' b o g q => by rw [(l1 s).2] at q; cases q }⟩
  have e := hk.block k (Nat.lt_of_lt_of_le q1 hs.keep.size) (fun q => by
    rcases q with q | q
    · exact q2 q
    · exact Nat.lt_irrefl _ (Nat.lt_of_lt_of_le q1 q)) (fun q => by cases q)
  exact e.trans (hs.keep.block k q1 q2 q3)
theorem getS_all {ro : RO} (h : ro.all = true) (m : Mm) (s : Nat) : getS ro m s = (m.sl.get s).getD (.any, none) := by
  unfold getS RO.own
  rw [h]; rfl
theorem toSt_age {ro : RO} {m : Mm} (h : ro.all = true) : ∀ s, (toSt ro (ageX m)).env s = (toSt ro m).env s ∧ ((toSt ro (ageX m)).tok s = none ∨ ∃ e, (toSt ro (ageX m)).tok s = some (2000000, e)) := by
  intro s
  show toV (getS ro (ageX m) s).1 = toV (getS ro m s).1 ∧ ((getS ro (ageX m) s).2 = none ∨ ∃ e, (getS ro (ageX m) s).2 = some (2000000, e))
  rw [getS_all h, getS_all h]
  unfold ageX
  rw [T.get_mapV]
  cases m.sl.get s with
  | none => exact ⟨rfl, .inl rfl⟩
  | some x => exact ⟨rfl, .inr ⟨0, rfl⟩⟩
theorem toSt_drop {ro : RO} {m : Mm} (h : ro.all = true) : Loose (toSt ro m) (toSt ro (looseX m)) := by
  refine ⟨fun s => ?_, rfl⟩
  show toV (getS ro (looseX m) s).1 = toV (getS ro m s).1 ∧ (getS ro (looseX m) s).2 = none
  rw [getS_all h, getS_all h]
  unfold looseX
  rw [T.get_mapV]
  cases m.sl.get s with
  | none => exact ⟨rfl, rfl⟩
  | some x => exact ⟨rfl, rfl⟩
theorem codeX_sound (hm : P.follows .mixedOrders = true) {n' : Nat} : ∀ (c : Code) (a : Ann) (ro : RO) (hro : ROok (!Nat.beq X.wr 0) ro) (m : Mm) {β : Type} (k : Exit → Mm → Option β) (r : β) (Kp : Exit → St → Prop), okX n' c a = true →
    (∀ ex m', k ex m' = some r → Kp ex (toSt ro m')) → codeX X c a ro m k = some r → AWp P n' c (toSt ro m) Kp
  | .skip, _, ro, hro, m, β, k, r, Kp, _, hK, h => fun F a w pr lam _ hs => wp_skip ⟨_, pr, lam, hK _ _ h, hs⟩
  | .label _, _, ro, hro, m, β, k, r, Kp, _, hK, h => fun F a w pr lam _ hs => wp_label ⟨_, pr, lam, hK _ _ h, hs⟩
  | .exit id, _, ro, hro, m, β, k, r, Kp, _, hK, h => fun F a w pr lam _ hs => wp_exit ⟨_, pr, lam, hK _ _ h, hs⟩
  | .ret, _, ro, hro, m, β, k, r, Kp, _, hK, h => fun F a w pr lam _ hs => wp_ret ⟨_, pr, lam, hK _ _ h, hs⟩
  | .region id ops dr, a, ro, hro, m, β, k, r, Kp, hok, hK, h => by
    cases hful : (dr && a.isFull) with
    | true =>
      simp only [okX, hful, cond_true, Bool.and_eq_true] at hok
      simp only [codeX, hful, cond_true] at h
      rw [Bool.and_eq_true] at hful
      obtain ⟨rfl, _⟩ := hful
      exact AWp.full hm hok.1 hok.2 (fullX_sound hro (fun m' h' => hK _ _ h') _ _ m h)
    | false =>
    simp only [okX, hful, cond_false] at hok
    simp only [codeX, hful, cond_false] at h
    clear hful
    cases hsch : (dr && a.isSch) with
    | true =>
      simp only [hsch, cond_true, Bool.and_eq_true] at hok
      simp only [hsch, cond_true] at h
      rw [Bool.and_eq_true] at hsch
      obtain ⟨rfl, _⟩ := hsch
      split at h
      · rename_i l hl
        exact AWp.sched hm hok.1 hok.2 hl (schX_sound hro (fun m' h' => hK _ _ h') l m h)
      · cases h
    | false =>
    simp only [hsch, cond_false] at hok
    simp only [hsch, cond_false] at h
    cases hsc : a.isSch with
    | true =>
      rw [hsc] at hok h hsch
      simp only [cond_true] at hok h
      simp only [Bool.and_true] at hsch
      subst hsch
      exact AWp.clr hok (tailX_sound hro (fun m' h' => hK _ _ h') _ m h)
    | false =>
    rw [hsc] at hok h
    simp only [cond_false] at hok h
    clear hsch hsc
    cases dr with
    | false =>
      refine codeVC_sound hm (.region id ops false) _ _ hok ?_
      show (if ([] : List Nat).contains id = true then _ else regVC P false ops (toSt ro m) (Kp .normal))
      rw [if_neg (by simp)]
      exact ⟨(fun h => by cases h), opsX_sound hro (fun m' h' => hK _ _ h') _ _ h⟩
    | true =>
      have hv : opsVC P true (ops.toList.map (·.dst)) ops.toList (toSt ro ⟨m.sl.mapV (clrD ((ops.toList.filter newOp).map (·.dst))), m.bx⟩) (Kp .normal) := opsX_sound hro (fun m' h' => hK _ _ h') _ _ h
      have hn := clrD_noTok (m := m) hro ops
      have hw := clrD_weak (ro := ro) (m := m) ((ops.toList.filter newOp).map (·.dst))
      generalize hm1 : toSt ro ⟨m.sl.mapV (clrD ((ops.toList.filter newOp).map (·.dst))), m.bx⟩ = st1 at hv hn hw
      have hc : AWp P n' (.region id ops true) st1 Kp := by
        refine codeVC_sound hm (.region id ops true) _ _ hok ?_
        show (if ([] : List Nat).contains id = true then _ else regVC P true ops st1 (Kp .normal))
        rw [if_neg (by simp)]
        exact ⟨fun _ => hn, hv⟩
      intro F a w pr lam hF hs
      refine hc F a w pr lam hF ?_
      have := SRel.weak hs (nb' := st1.nb) (sl' := st1.sl) hw
      have hb : st1.box = (toSt ro m).box := by rw [← hm1]; rfl
      rw [← hb] at this
      exact this
  | .seq x y, a, ro, hro, m, β, k, r, Kp, hok, hK, h => by
    simp only [okX, Bool.and_eq_true] at hok
    refine awp_seq (codeX_sound hm x a.l ro hro m _ r _ hok.1 ?_ h)
    intro ex m' h'
    cases ex with
    | normal =>
      simp only at h'
      cases hold : (a.r.isOld && ro.all) with
      | false =>
        rw [hold] at h'
        exact codeX_sound hm y a.r.un ro hro m' k r Kp hok.2 hK h'
      | true =>
        rw [hold] at h'
        rw [Bool.and_eq_true] at hold
        exact AWp.reframe (toSt_age hold.2) rfl (codeX_sound hm y a.r.un ro hro (ageX m') _ r (fun ex s2 => ∃ s3, Loose s2 s3 ∧ Kp ex s3) hok.2 (fun ex m2 hq => ⟨_, toSt_drop hold.2, hK ex _ hq⟩) h')
    | exit id => exact hK _ _ h'
    | goto l => exact hK _ _ h'
    | ret => exact hK _ _ h'
    | panic c => exact hK _ _ h'
    | outgrown => exact hK _ _ h'
  | .cond c x y, a, ro, hro, m, β, k, r, Kp, hok, hK, h => by
    simp only [okX, Bool.and_eq_true] at hok
    simp only [codeX] at h
    split at h
    · rename_i b hb
      have he : (toSt ro m).eval c = .bool b := by rw [← evalX_V, hb]; simp [toV]
      refine awp_cond he (fun hbt => ?_) (fun hbf => ?_)
      · subst hbt
        have := codeX_sound hm x a.l ro hro (refineX ro m c true) k r Kp hok.1 hK h
        rwa [refine_eqX hb] at this
      · subst hbf
        have := codeX_sound hm y a.r ro hro (refineX ro m c false) k r Kp hok.2 hK h
        rwa [refine_eqX hb] at this
    · cases h
  | .block id x, a, ro, hro, m, β, k, r, Kp, hok, hK, h => by
    refine awp_block (codeX_sound hm x a ro hro m _ r _ hok ?_ h)
    intro ex m' h'
    cases ex with
    | exit id' =>
      simp only at h'
      simp only [blockQ]
      cases hb : Nat.beq id' id with
      | true => rw [hb] at h'; rw [if_pos (Nat.eq_of_beq_eq_true hb)]; exact hK _ _ h'
      | false =>
        rw [hb] at h'
        rw [if_neg (fun e => by subst e; simp at hb)]
        exact hK _ _ h'
    | normal => exact hK _ _ h'
    | goto l => exact hK _ _ h'
    | ret => exact hK _ _ h'
    | panic c => exact hK _ _ h'
    | outgrown => exact hK _ _ h'
  | .loop x, .loop ds bs L es a, ro, hro, m, β, k, r, Kp, hok, hK, h => by
    simp only [codeX] at h
    obtain ⟨h0, h⟩ := condS h
    simp only [Bool.and_eq_true] at h0
    obtain ⟨⟨⟨⟨⟨⟨⟨c1, c2⟩, c3⟩, c4⟩, c5⟩, c6⟩, c7⟩, c8⟩ := h0
    split at h
    case h_2 => cases h
    rename_i v0 hv0
    obtain ⟨out, hit, hw⟩ := bind_some h
    obtain ⟨N, hN⟩ := iter_some.1 hit
    have d1 : ∀ s ∈ ds, ro.own s = true := List.all_eq_true.1 c1
    have d2 : ∀ i ∈ bs, ro.ownB i = true := List.all_eq_true.1 c2
    have d3 : ∀ i ∈ bs, i < m.bx.length := fun i hi => bltS (List.all_eq_true.1 c3 i hi)
    have d4 : ∀ i ∈ bs, hasBox L i = true := List.all_eq_true.1 c4
    have d5 : ∀ e ∈ es, ∀ i ∈ bs, hasBox e.2 i = true := fun e he => List.all_eq_true.1 (List.all_eq_true.1 c5 e he)
    have d6 : ro.nb ≤ m.bx.length := Nat.le_of_ble_eq_true c6
    have ownI : ∀ s, (inner (!Nat.beq X.wr 0) ro m ds bs).own s = decide (s ∈ ds) := fun s => by
      unfold RO.own inner; simp only [cond_false]; exact maskOf_spec ds s
    have ownBI : ∀ i, i < m.bx.length → (inner (!Nat.beq X.wr 0) ro m ds bs).ownB i = decide (i ∈ bs) := fun i hi => by
      unfold RO.ownB inner
      have : Nat.ble m.bx.length i = false := by
        cases hb : Nat.ble m.bx.length i
        · rfl
        · have := Nat.le_of_ble_eq_true hb; omega
      rw [this]; simp only [cond_false]; exact maskOf_spec bs i
    have ownBI' : ∀ i, m.bx.length ≤ i → (inner (!Nat.beq X.wr 0) ro m ds bs).ownB i = true := fun i hi => by
      unfold RO.ownB inner
      rw [Nat.ble_eq_true_of_le hi]; rfl
    have hroI : ROok (!Nat.beq X.wr 0) (inner (!Nat.beq X.wr 0) ro m ds bs) := by
      refine ⟨fun s => unTok_idem _ _, fun s t e h => unTok_tok h, fun hfl s _ => ?_, fun hfl i B hi hB => ?_⟩
      · have hfl' : (!Nat.beq X.wr 0) = true := by
          have : ((!Nat.beq X.wr 0) && _) = true := hfl
          rw [Bool.and_eq_true] at this; exact this.1
        show (unTok (!Nat.beq X.wr 0) (getS ro m s)).2 ≠ none ∨ flatS (unTok (!Nat.beq X.wr 0) (getS ro m s)).1 = true
        rw [hfl']
        exact unTok_flat
      · have hfl' : ((List.range m.bx.length).all fun i => match getB ro m i with | some B => flatB B | none => true) = true := by
          have : ((!Nat.beq X.wr 0) && _) = true := hfl
          rw [Bool.and_eq_true] at this; exact this.2
        have hil : i < m.bx.length := by
          rcases Nat.lt_or_ge i m.bx.length with q | q
          · exact q
          · rw [ownBI' i q] at hi; cases hi
        have := List.all_eq_true.1 hfl' i (List.mem_range.2 hil)
        have hB' : getB ro m i = some B := hB
        rw [hB'] at this
        exact this
    intro F ac w pr lam hF hs
    obtain ⟨E1, E2, E3⟩ := SRel.below hs c6
    have f1 : ∀ i, hasBox L i = true → i < m.bx.length := fun i hi => d3 i (anyBeq.1 (List.all_eq_true.1 c7 i (boxesOf_spec hi)))
    have f2 : ∀ e ∈ es, ∀ i, hasBox e.2 i = true → i < m.bx.length := fun e he i hi => d3 i (anyBeq.1 (List.all_eq_true.1 (List.all_eq_true.1 c8 e he) i (boxesOf_spec hi)))
    have hlen0 : (⟨.nil, List.replicate m.bx.length none⟩ : Mm).bx.length = m.bx.length := by simp
    have getS0 : ∀ s, getS (inner (!Nat.beq X.wr 0) ro m ds bs) ⟨.nil, List.replicate m.bx.length none⟩ s = if s ∈ ds then (.any, none) else unTok (!Nat.beq X.wr 0) (getS ro m s) := by
      intro s
      rw [getS, ownI]
      by_cases hs : s ∈ ds
      · simp [hs, T.get_nil]
      · simp only [hs, decide_false, cond_false, if_false]
        rfl
    have getB0 : ∀ i, i < m.bx.length → i ∉ bs → getB (inner (!Nat.beq X.wr 0) ro m ds bs) ⟨.nil, List.replicate m.bx.length none⟩ i = getB ro m i := by
      intro i hi hb
      rw [getB, ownBI i hi]
      simp only [hb, decide_false, cond_false]
      rfl
    have E1' : ∀ s, ltV m.bx.length (toV (getS (inner (!Nat.beq X.wr 0) ro m ds bs) ⟨.nil, List.replicate m.bx.length none⟩ s).1) = true := by
      intro s
      rw [getS0]
      split
      · simp [toV, ltV]
      · exact unTok_lt (E1 s)
    have E2' : ∀ i B, getB (inner (!Nat.beq X.wr 0) ro m ds bs) ⟨.nil, List.replicate m.bx.length none⟩ i = some B → ltVL m.bx.length (toBox B).cells = true := by
      intro i B hB
      rcases Nat.lt_or_ge i m.bx.length with hi | hi
      · by_cases hb : i ∈ bs
        · rw [getB, ownBI i hi] at hB
          simp [hb, hi] at hB
        · rw [getB0 i hi hb] at hB
          exact E2 i B hB
      · rw [getB, ownBI' i hi] at hB
        simp [Nat.not_lt.2 hi] at hB
    have enter : ∀ (roS : RO) (mS : Mm) (v : tupT L) (a' : Act) (w' : World) (pr' : Nat → Nat → Prop) (lam' : Nat → Option Nat), readL (getB ro m) roS mS L = some v → SRel P F (toSt roS mS) a' w' pr' lam' →
        (∀ s, s ∉ ds → Wk (pv (unTok (!Nat.beq X.wr 0) (getS ro m s))) (pv (getS roS mS s))) → (∀ i, i < m.bx.length → i ∉ bs → (getB roS mS i).map toBox = (getB ro m i).map toBox) →
        ∃ lam'', SRel P F (toSt (inner (!Nat.beq X.wr 0) ro m ds bs) (writeL (getB ro m) ⟨.nil, List.replicate m.bx.length none⟩ L v)) a' w' pr' lam'' := by
      intro roS mS v a' w' pr' lam' hr hs' hw1 hw2
      refine SRel.carry hs' hr hlen0 (Nat.le_refl _) f1 (fun s => ?_) (fun i hi => ?_) E1' E2' E3
      · rw [getS0]
        split
        · exact .inr (.inr (by simp [pv, toV]))
        · exact hw1 s ‹_›
      · by_cases hb : i ∈ bs
        · exact .inr ⟨d4 i hb, by rw [ownBI i hi]; simp [hb]⟩
        · rw [getB0 i hi hb]
          exact .inl (hw2 i hi hb).symm
    obtain ⟨lam0, hs0⟩ := enter ro m v0 ac w pr lam hv0 hs (fun s _ => unTok_Wk _ _) (fun i _ _ => rfl)
    have insS : ∀ (mI : Mm) s, s ∉ ds → getS (inner (!Nat.beq X.wr 0) ro m ds bs) mI s = unTok (!Nat.beq X.wr 0) (getS ro m s) := by
      intro mI s hsd
      rw [getS, ownI]
      simp only [hsd, decide_false, cond_false]
      rfl
    have insB : ∀ (mI : Mm) i, i < m.bx.length → i ∉ bs → getB (inner (!Nat.beq X.wr 0) ro m ds bs) mI i = getB ro m i := by
      intro mI i hi hb
      rw [getB, ownBI i hi]
      simp only [hb, decide_false, cond_false]
      rfl
    refine wp_loop_ix (fun j a' w' => ∃ v pr' lam', iterN _ j v = some out ∧ SRel P F (toSt (inner (!Nat.beq X.wr 0) ro m ds bs) (writeL (getB ro m) ⟨.nil, List.replicate m.bx.length none⟩ L v)) a' w' pr' lam') ?_ N ac w ⟨v0, pr, lam0, hN, hs0⟩
    rintro j a' w' ⟨v, pr', lam', hj, hsv⟩
    cases j with
    | zero => cases hj
    | succ j =>
      unfold iterN at hj
      split at hj
      · rename_i v' hF'
        have hbody := codeX_sound hm x a _ hroI _ _ _ (fun ex st' => ∃ m', st' = toSt (inner (!Nat.beq X.wr 0) ro m ds bs) m' ∧ ex = .normal ∧ readL (getB ro m) (inner (!Nat.beq X.wr 0) ro m ds bs) m' L = some v') hok (fun ex m' h' => ?_) hF'
        · refine wp_mono (hbody F a' w' pr' lam' hF hsv) ?_
          rintro ex a'' w'' ⟨st', pr'', lam'', ⟨m', rfl, rfl, hr⟩, hs'⟩
          obtain ⟨lam3, hs3⟩ := enter _ m' v' a'' w'' pr'' lam'' hr hs' (fun s hsd => by rw [insS m' s hsd]; exact .inl rfl) (fun i hi hb => by rw [insB m' i hi hb])
          exact ⟨j, by omega, v', pr'', lam3, hj, hs3⟩
        · cases ex with
          | normal =>
            simp only at h'
            split at h'
            · rename_i w2 hw2; cases h'; exact ⟨m', rfl, rfl, hw2⟩
            · cases h'
          | exit id =>
            simp only at h'
            split at h'
            · split at h' <;> cases h'
            · cases h'
          | ret =>
            simp only at h'
            split at h'
            · split at h' <;> cases h'
            · cases h'
          | goto l => simp [EX.of] at h'
          | panic l => simp [EX.of] at h'
          | outgrown => simp [EX.of] at h'
      · rename_i out' hF'
        cases hj
        have hbody := codeX_sound hm x a _ hroI _ _ _ (fun ex st' => ∃ m' e, st' = toSt (inner (!Nat.beq X.wr 0) ro m ds bs) m' ∧ EX.of ex = some e ∧ readOut (getB ro m) (inner (!Nat.beq X.wr 0) ro m ds bs) m' e es = some out) hok (fun ex m' h' => ?_) hF'
        · refine wp_mono (hbody F a' w' pr' lam' hF hsv) ?_
          rintro ex a'' w'' ⟨st', pr'', lam'', ⟨m', e, rfl, he, hr⟩, hs'⟩
          obtain ⟨L', y, ⟨e', hmem⟩, hr', hk'⟩ := readOut_write hr hw
          have getS1 : ∀ s, getS ro ⟨wipe (m.sl.mapV (unTok (!Nat.beq X.wr 0))) ds, m.bx⟩ s = if s ∈ ds then (.any, none) else unTok (!Nat.beq X.wr 0) (getS ro m s) := by
            intro s
            unfold getS
            by_cases hsd : s ∈ ds
            · rw [d1 s hsd, if_pos hsd]
              simp [wipe_get, hsd]
            · rw [if_neg hsd]
              cases ho : ro.own s
              · exact (hro.idem s).symm
              · simp only [cond_true]
                rw [wipe_get, if_neg hsd, T.get_mapV]
                cases m.sl.get s
                · simp [unTok, flatS]
                · rfl
          obtain ⟨lam3, hs3⟩ := SRel.carry (roT := ro) (m1 := ⟨wipe (m.sl.mapV (unTok (!Nat.beq X.wr 0))) ds, m.bx⟩) (n := m.bx.length) hs' hr' rfl d6 (f2 _ hmem) (fun s => by
              rw [getS1]
              split
              · exact .inr (.inr (by simp [pv, toV]))
              · rw [insS m' s ‹_›]; exact .inl rfl) (fun i hi => by
              by_cases hb : i ∈ bs
              · exact .inr ⟨d5 _ hmem i hb, d2 i hb⟩
              · rw [insB m' i hi hb]; exact .inl rfl) (fun s => by
              rw [getS1]
              split
              · simp [toV, ltV]
              · exact unTok_lt (E1 s)) E2 E3
          have hfin := hK _ _ hk'
          rw [EX.of_to he] at hfin
          cases ex with
          | normal => simp [EX.of] at he
          | exit id => exact ⟨_, pr'', lam3, hfin, hs3⟩
          | ret => exact ⟨_, pr'', lam3, hfin, hs3⟩
          | goto l => simp [EX.of] at he
          | panic l => simp [EX.of] at he
          | outgrown => simp [EX.of] at he
        · cases ex with
          | normal =>
            simp only at h'
            split at h' <;> cases h'
          | exit id =>
            simp only at h'
            split at h'
            · rename_i e he
              split at h'
              · rename_i w2 hw2; cases h'; exact ⟨m', e, rfl, he, hw2⟩
              · cases h'
            · cases h'
          | ret =>
            simp only at h'
            split at h'
            · rename_i e he
              split at h'
              · rename_i w2 hw2; cases h'; exact ⟨m', e, rfl, he, hw2⟩
              · cases h'
            · cases h'
          | goto l => simp [EX.of] at h'
          | panic l => simp [EX.of] at h'
          | outgrown => simp [EX.of] at h'
      · cases hj
  | .loop _, .no, ro, hro, m, β, k, r, Kp, _, _, h => by cases h
  | .loop _, .two _ _, ro, hro, m, β, k, r, Kp, _, _, h => by cases h
  | .rangeFunc _ _ _ _, a, ro, hro, m, β, k, r, Kp, _, _, h => by cases a <;> cases h
  | .scope _, a, ro, hro, m, β, k, r, Kp, _, _, h => by cases a <;> cases h
  | .goto _, a, ro, hro, m, β, k, r, Kp, _, _, h => by cases a <;> cases h
  | .refuse _, a, ro, hro, m, β, k, r, Kp, _, _, h => by cases a <;> cases h
end
end Go.X
