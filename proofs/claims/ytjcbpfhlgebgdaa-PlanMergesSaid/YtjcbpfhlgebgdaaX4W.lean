import Derived.Test.YtjcbpfhlgebgdaaX4
set_option linter.unusedSimpArgs false
set_option linter.unusedVariables false
namespace Go.X
open Go.Eng
open Go.RowKit
def pv (x : S × Tk) : V × Tk := (toV x.1, x.2)
mutual
def ltV (n : Nat) : V → Bool
  | .loc i _ => decide (i < n)
  | .mref i => decide (i < n)
  | .agg cs => ltVL n cs
  | .tup cs => ltVL n cs
  | .elt cs _ => ltVL n cs
  | .list rows => ltVL n rows
  | .fn _ a b => ltVL n a && ltVL n b
  | .iface _ v => ltV n v
  | _ => true
def ltVL (n : Nat) : List V → Bool
  | [] => true
  | c :: cs => ltV n c && ltVL n cs
end
mutual
theorem noLoc_lt (n : Nat) : ∀ v : V, v.noLoc = true → ltV n v = true
  | .loc _ _, h => by simp [V.noLoc] at h
  | .mref _, h => by simp [V.noLoc] at h
  | .agg cs, h => by simp only [V.noLoc] at h; simp only [ltV]; exact noLocL_lt n cs h
  | .tup cs, h => by simp only [V.noLoc] at h; simp only [ltV]; exact noLocL_lt n cs h
  | .elt cs _, h => by simp only [V.noLoc] at h; simp only [ltV]; exact noLocL_lt n cs h
  | .list cs, h => by simp only [V.noLoc] at h; simp only [ltV]; exact noLocL_lt n cs h
  | .fn _ a b, h => by
    simp only [V.noLoc, Bool.and_eq_true] at h
    simp only [ltV, Bool.and_eq_true]; exact ⟨noLocL_lt n a h.1, noLocL_lt n b h.2⟩
  | .iface _ v, h => by simp only [V.noLoc] at h; simp only [ltV]; exact noLoc_lt n v h
  | .any, _ => rfl
  | .un, _ => rfl
  | .int _ _, _ => rfl
  | .bool _, _ => rfl
  | .str _, _ => rfl
  | .nilp, _ => rfl
  | .nilfn, _ => rfl
  | .nilif, _ => rfl
  | .nilm, _ => rfl
  | .ptr _, _ => rfl
theorem noLocL_lt (n : Nat) : ∀ cs : List V, V.noLocL cs = true → ltVL n cs = true
  | [], _ => rfl
  | c :: cs, h => by
    simp only [V.noLocL, Bool.and_eq_true] at h
    simp only [ltVL, Bool.and_eq_true]; exact ⟨noLoc_lt n c h.1, noLocL_lt n cs h.2⟩
end
section
variable {w : World} {pr : Nat → Nat → Prop} {lam lam' : Nat → Option Nat} {n : Nat}
mutual
theorem R_lt (hl : ∀ i, n ≤ i → lam i = none) : ∀ (v : V) (x : Value), R ⟨w, pr, lam⟩ v x → ltV n v = true
  | .loc i _, _, q => by
    simp only [R] at q
    obtain ⟨b, e, _⟩ := q
    simp only [ltV, decide_eq_true_eq]
    rcases Nat.lt_or_ge i n with h | h
    · exact h
    · exact absurd (hl i h) (by rw [show lam i = some b from e]; simp)
  | .mref i, _, q => by
    simp only [R] at q
    obtain ⟨b, e, _⟩ := q
    simp only [ltV, decide_eq_true_eq]
    rcases Nat.lt_or_ge i n with h | h
    · exact h
    · exact absurd (hl i h) (by rw [show lam i = some b from e]; simp)
  | .agg cs, _, q => by
    simp only [R] at q; obtain ⟨xs, _, q, _⟩ := q
    simp only [ltV]; exact RL_lt hl cs xs q
  | .tup cs, _, q => by
    simp only [R] at q; obtain ⟨xs, _, q⟩ := q
    simp only [ltV]; exact RL_lt hl cs xs q
  | .elt cs _, _, q => by
    simp only [R] at q; obtain ⟨b, o, _, q⟩ := q
    simp only [ltV]; exact RC_lt hl b o cs q
  | .list rows, _, q => by
    simp only [R] at q; obtain ⟨base, cap, _, _, _, q⟩ := q
    simp only [ltV]
    rcases q with ⟨q, _⟩ | ⟨b, o, k, _, q⟩
    · subst q; rfl
    · exact RR_lt hl b k o rows q
  | .fn _ a c, _, q => by
    simp only [R] at q; obtain ⟨xs, ys, _, q1, q2⟩ := q
    simp only [ltV, Bool.and_eq_true]; exact ⟨RL_lt hl a xs q1, RL_lt hl c ys q2⟩
  | .iface _ v, _, q => by
    simp only [R] at q; obtain ⟨y, _, q⟩ := q
    simp only [ltV]; exact R_lt hl v y q
  | .any, _, _ => rfl
  | .un, _, _ => rfl
  | .int _ _, _, _ => rfl
  | .bool _, _, _ => rfl
  | .str _, _, _ => rfl
  | .nilp, _, _ => rfl
  | .nilfn, _, _ => rfl
  | .nilif, _, _ => rfl
  | .nilm, _, _ => rfl
  | .ptr _, _, _ => rfl
theorem RL_lt (hl : ∀ i, n ≤ i → lam i = none) : ∀ (cs : List V) (xs : List Value), RL ⟨w, pr, lam⟩ cs xs → ltVL n cs = true
  | [], _, _ => rfl
  | c :: cs, _, q => by
    simp only [RL] at q; obtain ⟨y, ys, _, q1, q2⟩ := q
    simp only [ltVL, Bool.and_eq_true]; exact ⟨R_lt hl c y q1, RL_lt hl cs ys q2⟩
theorem RC_lt (hl : ∀ i, n ≤ i → lam i = none) (b : Nat) : ∀ (o : Nat) (cs : List V), RC ⟨w, pr, lam⟩ b o cs → ltVL n cs = true
  | _, [], _ => rfl
  | o, c :: cs, q => by
    simp only [RC] at q; obtain ⟨⟨y, _, _, q1⟩, q2⟩ := q
    simp only [ltVL, Bool.and_eq_true]; exact ⟨R_lt hl c y q1, RC_lt hl b (o + 1) cs q2⟩
theorem RR_lt (hl : ∀ i, n ≤ i → lam i = none) (b k : Nat) : ∀ (o : Nat) (cs : List V), RR ⟨w, pr, lam⟩ b k o cs → ltVL n cs = true
  | _, [], _ => rfl
  | o, c :: cs, q => by
    simp only [RR] at q; obtain ⟨⟨y, q1, _⟩, q2⟩ := q
    simp only [ltVL, Bool.and_eq_true]; exact ⟨R_lt hl c y q1, RR_lt hl b k (o + k) cs q2⟩
end
mutual
theorem R_lam (hl : ∀ i, i < n → lam' i = lam i) : ∀ (v : V) (x : Value), ltV n v = true → R ⟨w, pr, lam⟩ v x → R ⟨w, pr, lam'⟩ v x
  | .loc i _, _, h, q => by
    simp only [ltV, decide_eq_true_eq] at h
    simp only [R] at q ⊢
    obtain ⟨b, e, q⟩ := q
    exact ⟨b, (hl i h).trans e, q⟩
  | .mref i, _, h, q => by
    simp only [ltV, decide_eq_true_eq] at h
    simp only [R] at q ⊢
    obtain ⟨b, e, q⟩ := q
    exact ⟨b, (hl i h).trans e, q⟩
  | .agg cs, _, h, q => by
    simp only [ltV] at h; simp only [R] at q ⊢
    obtain ⟨xs, e, q, q1⟩ := q
    exact ⟨xs, e, RL_lam hl cs xs h q, q1⟩
  | .tup cs, _, h, q => by
    simp only [ltV] at h; simp only [R] at q ⊢
    obtain ⟨xs, e, q⟩ := q
    exact ⟨xs, e, RL_lam hl cs xs h q⟩
  | .elt cs _, _, h, q => by
    simp only [ltV] at h; simp only [R] at q ⊢
    obtain ⟨b, o, e, q⟩ := q
    exact ⟨b, o, e, RC_lam hl b o cs h q⟩
  | .list rows, _, h, q => by
    simp only [ltV] at h; simp only [R] at q ⊢
    obtain ⟨base, cap, e1, e2, e3, q⟩ := q
    refine ⟨base, cap, e1, e2, e3, ?_⟩
    rcases q with q | ⟨b, o, k, e4, q⟩
    · exact .inl q
    · exact .inr ⟨b, o, k, e4, RR_lam hl b k o rows h q⟩
  | .fn _ a c, _, h, q => by
    simp only [ltV, Bool.and_eq_true] at h; simp only [R] at q ⊢
    obtain ⟨xs, ys, e, q1, q2⟩ := q
    exact ⟨xs, ys, e, RL_lam hl a xs h.1 q1, RL_lam hl c ys h.2 q2⟩
  | .iface _ v, _, h, q => by
    simp only [ltV] at h; simp only [R] at q ⊢
    obtain ⟨y, e, q⟩ := q
    exact ⟨y, e, R_lam hl v y h q⟩
  | .any, _, _, _ => by simp [R]
  | .un, _, _, q => by simpa [R] using q
  | .int _ _, _, _, q => by simpa [R] using q
  | .bool _, _, _, q => by simpa [R] using q
  | .str _, _, _, q => by simpa [R] using q
  | .nilp, _, _, q => by simpa [R] using q
  | .nilfn, _, _, q => by simpa [R] using q
  | .nilif, _, _, q => by simpa [R] using q
  | .nilm, _, _, q => by simpa [R] using q
  | .ptr _, _, _, q => by simpa [R] using q
theorem RL_lam (hl : ∀ i, i < n → lam' i = lam i) : ∀ (cs : List V) (xs : List Value), ltVL n cs = true → RL ⟨w, pr, lam⟩ cs xs → RL ⟨w, pr, lam'⟩ cs xs
  | [], _, _, q => by simpa [RL] using q
  | c :: cs, _, h, q => by
    simp only [ltVL, Bool.and_eq_true] at h; simp only [RL] at q ⊢
    obtain ⟨y, ys, e, q1, q2⟩ := q
    exact ⟨y, ys, e, R_lam hl c y h.1 q1, RL_lam hl cs ys h.2 q2⟩
theorem RC_lam (hl : ∀ i, i < n → lam' i = lam i) (b : Nat) : ∀ (o : Nat) (cs : List V), ltVL n cs = true → RC ⟨w, pr, lam⟩ b o cs → RC ⟨w, pr, lam'⟩ b o cs
  | _, [], _, _ => by simp [RC]
  | o, c :: cs, h, q => by
    simp only [ltVL, Bool.and_eq_true] at h; simp only [RC] at q ⊢
    obtain ⟨⟨y, e1, e2, q1⟩, q2⟩ := q
    exact ⟨⟨y, e1, e2, R_lam hl c y h.1 q1⟩, RC_lam hl b (o + 1) cs h.2 q2⟩
theorem RR_lam (hl : ∀ i, i < n → lam' i = lam i) (b k : Nat) : ∀ (o : Nat) (cs : List V), ltVL n cs = true → RR ⟨w, pr, lam⟩ b k o cs → RR ⟨w, pr, lam'⟩ b k o cs
  | _, [], _, _ => by simp [RR]
  | o, c :: cs, h, q => by
    simp only [ltVL, Bool.and_eq_true] at h; simp only [RR] at q ⊢
    obtain ⟨⟨y, q1, e⟩, q2⟩ := q
    exact ⟨⟨y, R_lam hl c y h.1 q1, e⟩, RR_lam hl b k (o + k) cs h.2 q2⟩
end
theorem RM_lt (hl : ∀ i, n ≤ i → lam i = none) : ∀ (cs : List V) (es : List MapEntry), RM ⟨w, pr, lam⟩ cs es → ltVL n cs = true
  | [], _, _ => rfl
  | c :: cs, _, q => by
    simp only [RM] at q
    obtain ⟨k, v, e, es', rfl, _, h3, h4, h5⟩ := q
    simp only [ltVL, ltV, Bool.and_eq_true, Bool.and_true]
    exact ⟨⟨R_lt hl _ _ h3, R_lt hl _ _ h4⟩, RM_lt hl cs es' h5⟩
theorem RM_lam (hl : ∀ i, i < n → lam' i = lam i) : ∀ (cs : List V) (es : List MapEntry), ltVL n cs = true → RM ⟨w, pr, lam⟩ cs es → RM ⟨w, pr, lam'⟩ cs es
  | [], _, _, q => by simpa [RM] using q
  | c :: cs, _, h, q => by
    simp only [RM] at q ⊢
    obtain ⟨k, v, e, es', rfl, h2, h3, h4, h5⟩ := q
    simp only [ltVL, ltV, Bool.and_eq_true, Bool.and_true] at h
    exact ⟨k, v, e, es', rfl, h2, R_lam hl _ _ h.1.1 h3, R_lam hl _ _ h.1.2 h4, RM_lam hl cs es' h.2 h5⟩
theorem boxAt_lt {b : Nat} {B : Box} (hl : ∀ i, n ≤ i → lam i = none) (h : BoxAt ⟨w, pr, lam⟩ b B) : ltVL n B.cells = true := by
  rcases Nat.lt_or_ge B.ty mapTy with q | q
  · obtain ⟨cur, _, h2, _⟩ := h.cells q
    exact RL_lt hl _ _ h2
  · obtain ⟨es, clock, _, h2, _⟩ := h.map q
    exact RM_lt hl _ _ h2
theorem boxAt_lam {b : Nat} {B : Box} (hl : ∀ i, i < n → lam' i = lam i) (hn : ltVL n B.cells = true) (h : BoxAt ⟨w, pr, lam⟩ b B) : BoxAt ⟨w, pr, lam'⟩ b B := by
  refine ⟨fun ht => ?_, fun ht => ?_⟩
  · obtain ⟨cur, h1, h2, h3⟩ := h.cells ht
    exact ⟨cur, h1, RL_lam hl _ _ hn h2, h3⟩
  · obtain ⟨es, clock, h1, h2, h3⟩ := h.map ht
    exact ⟨es, clock, h1, RM_lam hl _ _ hn h2, h3⟩
end
def Wk (x' x : V × Tk) : Prop := x' = x ∨ x' = (x.1, none) ∨ x' = (.any, none)
theorem SRel.weak {P : Program} {F : Fr} {st : St} {a : Act} {w : World} {pr : Nat → Nat → Prop} {lam : Nat → Option Nat} (h : SRel P F st a w pr lam) {nb' : Nat} {sl' : Nat → V × Tk} (hw : ∀ s, Wk (sl' s) (st.sl s)) :
    SRel P F ⟨nb', sl', st.box⟩ a w pr lam := by
  have ht : ∀ s t e, (sl' s).2 = some (t, e) → st.tok s = some (t, e) := by
    intro s t e hs
    rcases hw s with q | q | q <;> rw [q] at hs
    · exact hs
    · cases hs
    · cases hs
  refine ⟨h.size, h.defers, fun s => ?_, fun s t e hs => h.own s t e (ht s t e hs), fun s s' t t' e e' g hs hs' => h.coh s s' t t' e e' g (ht _ _ _ hs) (ht _ _ _ hs'), h.box, h.inj, fun i B b s t e hB hl hs => h.apart i B b s t e hB hl (ht _ _ _ hs), h.nolam, h.prlt, h.keep, h.prsub, h.prnew, h.lamsub,
    fun s s' t e e' hs hs' => h.coh2 s s' t e e' (ht _ _ _ hs) (ht _ _ _ hs'), fun s t e hs hc => ?_, fun s s' t e e' b o g hs hs' => h.ptr s s' t e e' b o g (ht _ _ _ hs) (ht _ _ _ hs')⟩
  rotate_right
  · have ho := h.old s t e (ht _ _ _ hs) hc
    show R _ (sl' s).1 _
    change (sl' s).2 = some (t, e) at hs
    rcases hw s with q | q | q
    · rw [q]; exact ho
    · rw [q] at hs; cases hs
    · rw [q] at hs; cases hs
  show R _ (sl' s).1 _
  rcases hw s with q | q | q <;> rw [q]
  · exact h.env s
  · exact h.env s
  · simp [R]
theorem SRel.drop {P : Program} {F : Fr} {st : St} {a : Act} {w : World} {pr : Nat → Nat → Prop} {lam : Nat → Option Nat} (h : SRel P F st a w pr lam) {n nb' : Nat} (h1 : ∀ s, ltV n (st.sl s).1 = true)
    (h2 : ∀ i B, i < n → st.box i = some B → ltVL n B.cells = true) (h3 : ∀ i b, F.lam0 i = some b → i < n) :
    SRel P F ⟨nb', st.sl, fun i => if i < n then st.box i else none⟩ a w pr (fun i => if i < n then lam i else none) := by
  have hl : ∀ i, i < n → (fun i => if i < n then lam i else none) i = lam i := fun i hi => if_pos hi
  have hbx : ∀ i B, (if i < n then st.box i else none) = some B → i < n ∧ st.box i = some B := by
    intro i B hB
    split at hB
    · exact ⟨‹_›, hB⟩
    · cases hB
  have hlx : ∀ i b, (if i < n then lam i else none) = some b → lam i = some b := by
    intro i b hB
    split at hB
    · exact hB
    · cases hB
  refine ⟨h.size, h.defers, fun s => R_lam hl _ _ (h1 s) (h.env s), h.own, h.coh, fun i B hB => ?_, fun i j B B' b hB hB' q q' => ?_, fun i B b s t e hB q hs => ?_, fun i hi => ?_, h.prlt, h.keep, h.prsub, h.prnew, fun i b hi => ?_, h.coh2, fun s t e hs hc => R_lam hl _ _ (h1 s) (h.old s t e hs hc), h.ptr⟩
  · obtain ⟨q1, q2⟩ := hbx i B hB
    obtain ⟨b, r1, r2, r3, r4⟩ := h.box i B q2
    exact ⟨b, by rw [← r1]; exact if_pos q1, boxAt_lam hl (h2 i B q1 q2) r2, r3, r4⟩
  · exact h.inj i j B B' b (hbx i B hB).2 (hbx j B' hB').2 (hlx _ _ q) (hlx _ _ q')
  · exact h.apart i B b s t e (hbx i B hB).2 (hlx _ _ q) hs
  · show (if i < n then lam i else none) = none
    by_cases q : i < n
    · rw [if_pos q]
      have hi' : (if i < n then st.box i else none) = none := hi
      rw [if_pos q] at hi'
      exact h.nolam i hi'
    · rw [if_neg q]
  · show (if i < n then lam i else none) = some b
    rw [if_pos (h3 i b hi)]
    exact h.lamsub i b hi
end Go.X
