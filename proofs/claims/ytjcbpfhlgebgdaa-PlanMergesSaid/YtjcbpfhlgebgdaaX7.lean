import Derived.Test.YtjcbpfhlgebgdaaX6
set_option linter.unusedSimpArgs false
set_option linter.unusedVariables false
namespace Go.X
open Go.Eng
open Go.RowKit
theorem iterN_mono {σ ρ : Type} {F : σ → Option (Step σ ρ)} {r : ρ} : ∀ {n m : Nat} {s : σ}, n ≤ m → iterN F n s = some r → iterN F m s = some r
  | 0, _, s, _, h => by cases h
  | n + 1, 0, s, hm, h => by omega
  | n + 1, m + 1, s, hm, h => by
    unfold iterN at h ⊢
    split at h
    · exact iterN_mono (by omega) h
    · exact h
    · cases h
theorem iter_some {σ ρ : Type} {F : σ → Option (Step σ ρ)} {s : σ} {r : ρ} : iter F s = some r ↔ ∃ n, iterN F n s = some r := by
  unfold iter
  constructor
  · intro h
    split at h
    · rename_i hex
      cases h
      exact hex.choose_spec
    · cases h
  · rintro ⟨n, hn⟩
    have hex : ∃ r n, iterN F n s = some r := ⟨r, n, hn⟩
    rw [dif_pos hex]
    obtain ⟨n', hn'⟩ := hex.choose_spec
    have h1 := iterN_mono (Nat.le_max_left n n') hn
    have h2 := iterN_mono (Nat.le_max_right n n') hn'
    rw [h1] at h2
    exact h2.symm
theorem iter_eq {σ ρ : Type} (F : σ → Option (Step σ ρ)) (s : σ) : iter F s = match F s with | some (.next s') => iter F s' | some (.done r) => some r | none => none := by
  apply Option.ext
  intro r
  rw [iter_some]
  constructor
  · rintro ⟨n, h⟩
    cases n with
    | zero => cases h
    | succ n =>
      unfold iterN at h
      split at h
      · rename_i s' e; rw [e]; exact iter_some.2 ⟨n, h⟩
      · rename_i r' e; rw [e]; exact h
      · cases h
  · intro h
    split at h
    · rename_i s' e
      obtain ⟨n, hn⟩ := iter_some.1 h
      exact ⟨n + 1, by unfold iterN; rw [e]; exact hn⟩
    · rename_i r' e
      exact ⟨1, by unfold iterN; rw [e]; exact h⟩
    · cases h
theorem maskOf_aux : ∀ (l : List Nat) (a i : Nat), (l.foldl (fun a s => a ||| (1 <<< s)) a).testBit i = (a.testBit i || decide (i ∈ l))
  | [], a, i => by simp
  | s :: l, a, i => by
    rw [List.foldl_cons, maskOf_aux l]
    rw [Nat.testBit_or, Nat.one_shiftLeft, Nat.testBit_two_pow]
    by_cases h : s = i
    · subst h; simp
    · have : ¬ i = s := fun e => h e.symm
      simp [h, this]
theorem maskOf_spec (l : List Nat) (i : Nat) : (maskOf l).testBit i = decide (i ∈ l) := by
  unfold maskOf; rw [maskOf_aux]; simp
theorem tkEq_spec {a b : Tk} (h : tkEq a b = true) : a = none ∨ a = b := by
  cases a with
  | none => exact .inl rfl
  | some p =>
    cases b with
    | none => cases h
    | some q =>
      obtain ⟨t, e⟩ := p; obtain ⟨t', e'⟩ := q
      simp only [tkEq, Bool.and_eq_true] at h
      have h1 := Nat.eq_of_beq_eq_true h.1
      have h2 := Nat.eq_of_beq_eq_true h.2
      subst h1; subst h2; exact .inr rfl
theorem getS_set {ro : RO} {sl : T (S × Tk)} {bx : List (Option SBox)} {s0 : Nat} {x : S × Tk} (s : Nat) : getS ro ⟨sl.set s0 x, bx⟩ s = if s = s0 ∧ ro.own s = true then x else getS ro ⟨sl, bx⟩ s := by
  unfold getS
  cases ho : ro.own s with
  | false => simp
  | true =>
    simp only [cond_true, and_true]
    rw [T.get_set]
    split <;> rfl
theorem getB_setAny {ro : RO} {sl : T (S × Tk)} {bx : List (Option SBox)} {i j : Nat} {B : SBox} (hi : i < bx.length) : getB ro ⟨sl, bx.set i (some B)⟩ j = if j = i ∧ ro.ownB j = true then some B else getB ro ⟨sl, bx⟩ j := by
  unfold getB
  cases ho : ro.ownB j with
  | false => simp
  | true =>
    simp only [cond_true, and_true]
    by_cases h : j = i
    · subst h; simp [hi]
    · rw [if_neg h, List.getElem?_set_ne (Ne.symm h)]
variable {β : Type}
section
variable {old : Nat → Option SBox} {roS roT : RO} {mS : Mm} {n : Nat}
theorem writeLV_step {v : LV} {x : v.ty} {m1 : Mm} (hr : readLV old roS mS v = some x) (hlen : m1.bx.length = n) (hbs : ∀ i, hasBox [v] i = true → i < n) :
    (writeLV old m1 v x).bx.length = n ∧ (∀ s, Wk (pv (getS roT m1 s)) (pv (getS roS mS s)) → Wk (pv (getS roT (writeLV old m1 v x) s)) (pv (getS roS mS s))) ∧
    (∀ i, ((getB roT m1 i).map toBox = (getB roS mS i).map toBox ∨ (hasBox [v] i = true ∧ roT.ownB i = true)) → (getB roT (writeLV old m1 v x) i).map toBox = (getB roS mS i).map toBox) ∧
    (∀ k, (∀ s, ltV k (toV (getS roT m1 s).1) = true) → ∀ s, ltV k (toV (getS roT (writeLV old m1 v x) s).1) = true) ∧
    (∀ k, (∀ i B, getB roT m1 i = some B → ltVL k (toBox B).cells = true) → ∀ i B, getB roT (writeLV old m1 v x) i = some B → ltVL k (toBox B).cells = true) := by
  cases v with
  | slot s0 c tk =>
    simp only [readLV] at hr
    obtain ⟨h1, h2⟩ := condS hr
    have e := unrefl_enc h2
    refine ⟨hlen, fun s hs => ?_, fun i hi => ?_, fun k hk s => ?_, fun k hk i B hB => hk i B hB⟩
    · simp only [writeLV]
      rw [getS_set]
      split
      · rename_i hc
        obtain ⟨rfl, _⟩ := hc
        unfold pv
        simp only
        rw [refl_enc, ← e]
        rcases tkEq_spec h1 with q | q
        · subst q; exact .inr (.inl rfl)
        · subst q; exact .inl rfl
      · exact hs
    · rcases hi with hi | hi
      · exact hi
      · simp [hasBox] at hi
    · simp only [writeLV]
      rw [getS_set]
      split
      · exact noLoc_lt _ _ (by rw [refl_enc]; exact enc_noLoc c x)
      · exact hk s
  | box i0 c =>
    have hi0 : i0 < n := hbs i0 (by simp [hasBox])
    simp only [readLV] at hr
    split at hr
    · rename_i cs ty hB
      obtain ⟨h1, h2⟩ := condS hr
      have ht := Nat.eq_of_beq_eq_true h1
      have hcells : toVL (cellsS (refl c x)) = toVL cs := by
        rw [refl_cells]
        split at h2
        · rename_i y hy
          cases h2
          have := unrefl_enc hy
          simp only [toV] at this
          rw [← this]; rfl
        · split at h2
          · cases h2
          · rename_i z hz _
            have := unrefl_enc h2
            rw [← this]
            have hne : ∀ ds, z ≠ .agg ds := fun ds e => hz ds (by rw [e])
            have hcl : (toV z).cellsL = [toV z] := by
              cases z with
              | agg ds => exact absurd rfl (hne ds)
              | gel g o => simp only [toV]; split <;> rfl
              | ivd x => simp only [toV]; exact iv_cellsL x
              | _ => rfl
            rw [hcl]; simp [toVL]
          · cases h2
      refine ⟨by simp [writeLV, hlen], fun s hs => hs, fun i hi => ?_, fun k hk s => hk s, fun k hk i B hB => ?_⟩
      · simp only [writeLV]
        rw [getB_setAny (by omega)]
        split
        · rename_i hc
          obtain ⟨rfl, _⟩ := hc
          rw [hB]
          simp only [Option.map_some, toBox, hcells, ht]
        · rename_i hne
          rcases hi with hi | ⟨hi, ho⟩
          · exact hi
          · simp [hasBox] at hi
            exact absurd ⟨hi.symm, ho⟩ hne
      · simp only [writeLV] at hB
        rw [getB_setAny (by omega)] at hB
        split at hB
        · cases hB
          simp only [toBox]
          refine noLocL_lt _ _ ?_
          rw [refl_cells]
          have := enc_noLoc c x
          cases he : enc c x <;> rw [he] at this <;> simp_all [V.noLoc, V.cellsL, V.noLocL]
        · exact hk i B hB
    · cases hr
  | mapb i0 kc vc =>
    have hi0 : i0 < n := hbs i0 (by simp [hasBox])
    simp only [readLV] at hr
    split at hr
    · rename_i mt kc' vc' l hB
      obtain ⟨h1, h2⟩ := condS hr
      have ht := Nat.eq_of_beq_eq_true h1
      split at h2
      · rename_i hc
        obtain ⟨rfl, rfl⟩ := hc
        cases h2
        refine ⟨by simp [writeLV, hlen], fun s hs => hs, fun i hi => ?_, fun k hk s => hk s, fun k hk i B hB => ?_⟩
        · simp only [writeLV]
          rw [getB_setAny (by omega)]
          split
          · rename_i hc
            obtain ⟨rfl, _⟩ := hc
            rw [hB]
            simp only [Option.map_some, toBox, ht]
          · rename_i hne
            rcases hi with hi | ⟨hi, ho⟩
            · exact hi
            · simp [hasBox] at hi
              exact absurd ⟨hi.symm, ho⟩ hne
        · simp only [writeLV] at hB
          rw [getB_setAny (by omega)] at hB
          split at hB
          · cases hB
            exact noLocL_lt _ _ (encM_noLoc l)
          · exact hk i B hB
      · cases h2
    · cases hr
theorem hasBox_cons (v w : LV) (L : List LV) (i : Nat) : hasBox (v :: w :: L) i = (hasBox [v] i || hasBox (w :: L) i) := by
  cases v <;> simp [hasBox]
theorem writeL_all : ∀ {L : List LV} {x : tupT L} {m1 : Mm}, readL old roS mS L = some x → m1.bx.length = n → (∀ i, hasBox L i = true → i < n) →
    (writeL old m1 L x).bx.length = n ∧ ((∀ s, Wk (pv (getS roT m1 s)) (pv (getS roS mS s))) → ∀ s, Wk (pv (getS roT (writeL old m1 L x) s)) (pv (getS roS mS s))) ∧
    (∀ i, ((getB roT m1 i).map toBox = (getB roS mS i).map toBox ∨ (hasBox L i = true ∧ roT.ownB i = true)) → (getB roT (writeL old m1 L x) i).map toBox = (getB roS mS i).map toBox) ∧
    (∀ k, (∀ s, ltV k (toV (getS roT m1 s).1) = true) → ∀ s, ltV k (toV (getS roT (writeL old m1 L x) s).1) = true) ∧
    (∀ k, (∀ i B, getB roT m1 i = some B → ltVL k (toBox B).cells = true) → ∀ i B, getB roT (writeL old m1 L x) i = some B → ltVL k (toBox B).cells = true)
  | [], x, m1, _, hlen, _ => ⟨hlen, fun h => h, fun i hi => by
      rcases hi with hi | hi
      · exact hi
      · simp [hasBox] at hi, fun k h => h, fun k h => h⟩
  | [v], x, m1, hr, hlen, hb => by
    obtain ⟨h1, h2, h3, h4, h5⟩ := writeLV_step (roT := roT) hr hlen hb
    exact ⟨h1, fun h s => h2 s (h s), h3, h4, h5⟩
  | v :: w :: L, x, m1, hr, hlen, hb => by
    simp only [readL] at hr
    split at hr
    · rename_i y z hy hz
      cases hr
      obtain ⟨h1, h2, h3, h4, h5⟩ := writeLV_step (roT := roT) (m1 := m1) hy hlen (fun i hi => hb i (by rw [hasBox_cons, hi]; rfl))
      obtain ⟨g1, g2, g3, g4, g5⟩ := writeL_all (L := w :: L) hz h1 (fun i hi => hb i (by rw [hasBox_cons, hi]; simp))
      refine ⟨g1, fun h => g2 fun s => h2 s (h s), fun i hi => g3 i ?_, fun k h => g4 k (h4 k h), fun k h => g5 k (h5 k h)⟩
      rcases hi with hi | ⟨hi, ho⟩
      · exact .inl (h3 i (.inl hi))
      · rw [hasBox_cons, Bool.or_eq_true] at hi
        rcases hi with hi | hi
        · exact .inl (h3 i (.inr ⟨hi, ho⟩))
        · exact .inr ⟨hi, ho⟩
    · cases hr
end
theorem SRel.carry {P : Program} {F : Fr} {a : Act} {w : World} {pr : Nat → Nat → Prop} {lam : Nat → Option Nat} {old : Nat → Option SBox} {roS roT : RO} {mS m1 : Mm} {n : Nat} {L : List LV} {x : tupT L}
    (h : SRel P F (toSt roS mS) a w pr lam) (hr : readL old roS mS L = some x) (hlen : m1.bx.length = n) (hnT : roT.nb ≤ n) (hL : ∀ i, hasBox L i = true → i < n)
    (H1 : ∀ s, Wk (pv (getS roT m1 s)) (pv (getS roS mS s)))
    (H2 : ∀ i, i < n → (getB roT m1 i).map toBox = (getB roS mS i).map toBox ∨ (hasBox L i = true ∧ roT.ownB i = true))
    (E1 : ∀ s, ltV n (toV (getS roT m1 s).1) = true) (E2 : ∀ i B, getB roT m1 i = some B → ltVL n (toBox B).cells = true) (E3 : ∀ i b, F.lam0 i = some b → i < n) :
    ∃ lam', SRel P F (toSt roT (writeL old m1 L x)) a w pr lam' := by
  obtain ⟨g1, g2, g3, g4, g5⟩ := writeL_all (roT := roT) (m1 := m1) hr hlen hL
  have hw := SRel.weak h (nb' := n) (sl' := (toSt roT (writeL old m1 L x)).sl) (fun s => g2 H1 s)
  have hd := SRel.drop hw (n := n) (nb' := n) (fun s => g4 n E1 s) (fun i B hi hB => ?_) E3
  · refine ⟨_, (congrArg (fun st => SRel P F st a w pr _) ?_).mp hd⟩
    show (⟨n, _, _⟩ : St) = toSt roT (writeL old m1 L x)
    unfold toSt
    rw [g1]
    congr 1
    funext i
    by_cases hi : i < n
    · rw [if_pos hi]
      exact (g3 i (H2 i hi)).symm
    · rw [if_neg hi]
      have : getB roT (writeL old m1 L x) i = none := by
        unfold getB RO.ownB
        have hb : Nat.ble roT.nb i = true := Nat.ble_eq_true_of_le (by omega)
        rw [hb]
        simp only [cond_true]
        rw [List.getElem?_eq_none (by omega)]; rfl
      rw [this]; rfl
  · have hB' : (getB roS mS i).map toBox = some B := hB
    rw [← g3 i (H2 i hi)] at hB'
    cases hq : getB roT (writeL old m1 L x) i with
    | none => rw [hq] at hB'; cases hB'
    | some B' =>
      rw [hq] at hB'
      cases hB'
      exact g5 n E2 i B' hq
theorem SRel.below {P : Program} {F : Fr} {a : Act} {w : World} {pr : Nat → Nat → Prop} {lam : Nat → Option Nat} {ro : RO} {m : Mm} (h : SRel P F (toSt ro m) a w pr lam) (hn : Nat.ble ro.nb m.bx.length = true) :
    (∀ s, ltV m.bx.length (toV (getS ro m s).1) = true) ∧ (∀ i B, getB ro m i = some B → ltVL m.bx.length (toBox B).cells = true) ∧ (∀ i b, F.lam0 i = some b → i < m.bx.length) := by
  have hl : ∀ i, m.bx.length ≤ i → lam i = none := by
    intro i hi
    refine h.nolam i ?_
    show (getB ro m i).map toBox = none
    unfold getB RO.ownB
    have hb : Nat.ble ro.nb i = true := Nat.ble_eq_true_of_le (Nat.le_trans (Nat.le_of_ble_eq_true hn) hi)
    rw [hb]
    simp only [cond_true]
    rw [List.getElem?_eq_none hi]; rfl
  refine ⟨fun s => R_lt hl _ _ (h.env s), fun i B hB => ?_, fun i b hi => ?_⟩
  · have hB' : (toSt ro m).box i = some (toBox B) := by show (getB ro m i).map toBox = _; rw [hB]; rfl
    obtain ⟨b, q1, q2, _⟩ := h.box i _ hB'
    exact boxAt_lt hl q2
  · rcases Nat.lt_or_ge i m.bx.length with q | q
    · exact q
    · have := h.lamsub i b hi
      rw [hl i q] at this; cases this
end Go.X
