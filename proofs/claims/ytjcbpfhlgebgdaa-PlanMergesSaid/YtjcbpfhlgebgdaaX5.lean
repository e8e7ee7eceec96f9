import Derived.Test.YtjcbpfhlgebgdaaX4S
set_option linter.unusedSimpArgs false
set_option linter.unusedVariables false
namespace Go.X
open Go.Eng
open Go.RowKit
variable {β : Type}
mutual
theorem ren_toV {f g : Nat → Nat} : ∀ s : S, (∀ i ∈ locsS s, g (f i) = i) → V.ren g (toV (renS f s)) = toV s
  | .any, _ => by simp [toV, renS, V.ren]
  | .un, _ => by simp [toV, renS, V.ren]
  | .int _ _, _ => by simp [toV, renS, V.ren]
  | .bool _, _ => by simp [toV, renS, V.ren]
  | .str _, _ => by simp [toV, renS, V.ren]
  | .agg cs, h => by simp only [renS, toV, V.ren]; rw [ren_toVL cs (by simpa [locsS] using h)]
  | .tup cs, h => by simp only [renS, toV, V.ren]; rw [ren_toVL cs (by simpa [locsS] using h)]
  | .loc i o, h => by simp only [renS, toV, V.ren]; rw [h i (by simp [locsS])]
  | .loco i o n ix, h => by simp only [renS, toV, V.ren]; rw [h i (by simp [locsS])]
  | .elt cs o, h => by simp only [renS, toV, V.ren]; rw [ren_toVL cs (by simpa [locsS] using h)]
  | .gel g' o, _ => by simp only [renS]; exact V.ren_noLoc _ _ (gel_noLoc g' o)
  | .nilp, _ => by simp [toV, renS, V.ren]
  | .lst c l, _ => by
    simp only [renS]
    refine V.ren_noLoc _ _ ?_
    simp only [toV, V.noLoc]; exact noLocL_map' (enc_noLoc c) l
  | .rows vs, h => by simp only [renS, toV, V.ren]; rw [ren_toVL vs (by simpa [locsS] using h)]
  | .fn f' a b, h => by
    simp only [renS, toV, V.ren]
    have h' : ∀ i, i ∈ locsSL a ∨ i ∈ locsSL b → g (f i) = i := by simpa [locsS] using h
    rw [ren_toVL a (fun i hi => h' i (.inl hi)), ren_toVL b (fun i hi => h' i (.inr hi))]
  | .nilfn, _ => by simp [toV, renS, V.ren]
  | .iface t v, h => by simp only [renS, toV, V.ren]; rw [ren_toV v (by simpa [locsS] using h)]
  | .nilif, _ => by simp [toV, renS, V.ren]
  | .mref i, h => by simp only [renS, toV, V.ren]; rw [h i (by simp [locsS])]
  | .nilm, _ => by simp [toV, renS, V.ren]
  | .ptr _ _ _, _ => by simp [toV, renS, V.ren]
  | .ivd x, _ => by simp only [renS, toV]; exact V.ren_noLoc _ _ (noLoc_iv x)
theorem ren_toVL {f g : Nat → Nat} : ∀ cs : List S, (∀ i ∈ locsSL cs, g (f i) = i) → V.renL g (toVL (renSL f cs)) = toVL cs
  | [], _ => by simp [toVL, renSL, V.renL]
  | c :: cs, h => by
    simp only [renSL, toVL, V.renL]
    have h' : ∀ i, i ∈ locsS c ∨ i ∈ locsSL cs → g (f i) = i := by simpa [locsSL] using h
    rw [ren_toV c (fun i hi => h' i (.inl hi)), ren_toVL cs (fun i hi => h' i (.inr hi))]
end
mutual
theorem noLocS_of_locs : ∀ s : S, locsS s = [] → noLocS s = true
  | .any, _ => by simp [noLocS]
  | .un, _ => by simp [noLocS]
  | .int _ _, _ => by simp [noLocS]
  | .bool _, _ => by simp [noLocS]
  | .str _, _ => by simp [noLocS]
  | .agg cs, h => by simp only [noLocS]; exact noLocSL_of_locs cs (by simpa [locsS] using h)
  | .tup cs, h => by simp only [noLocS]; exact noLocSL_of_locs cs (by simpa [locsS] using h)
  | .loc i o, h => by simp [locsS] at h
  | .loco i o n ix, h => by simp [locsS] at h
  | .elt cs o, h => by simp only [noLocS]; exact noLocSL_of_locs cs (by simpa [locsS] using h)
  | .gel g' o, _ => by simp [noLocS]
  | .nilp, _ => by simp [noLocS]
  | .lst c l, _ => by simp [noLocS]
  | .rows vs, h => by simp only [noLocS]; exact noLocSL_of_locs vs (by simpa [locsS] using h)
  | .fn f' a b, h => by
    have h' : locsSL a = [] ∧ locsSL b = [] := by simpa [locsS] using h
    simp only [noLocS, noLocSL_of_locs a h'.1, noLocSL_of_locs b h'.2, Bool.and_self]
  | .nilfn, _ => by simp [noLocS]
  | .iface t v, h => by simp only [noLocS]; exact noLocS_of_locs v (by simpa [locsS] using h)
  | .nilif, _ => by simp [noLocS]
  | .mref i, h => by simp [locsS] at h
  | .nilm, _ => by simp [noLocS]
  | .ptr _ _ _, _ => by simp [noLocS]
  | .ivd _, _ => by simp [noLocS]
theorem noLocSL_of_locs : ∀ cs : List S, locsSL cs = [] → noLocSL cs = true
  | [], _ => rfl
  | c :: cs, h => by
    have h' : locsS c = [] ∧ locsSL cs = [] := by simpa [locsSL] using h
    simp only [noLocSL, noLocS_of_locs c h'.1, noLocSL_of_locs cs h'.2, Bool.and_self]
end
theorem anyBeq {l : List Nat} {i : Nat} : l.any (Nat.beq i) = true ↔ i ∈ l := by
  rw [List.any_eq_true]
  constructor
  · rintro ⟨x, hx, hb⟩; rw [Nat.eq_of_beq_eq_true hb]; exact hx
  · intro h; exact ⟨i, h, by simp⟩
theorem dedup_spec : ∀ (l acc : List Nat), acc.Nodup → (dedup l acc).Nodup ∧ (∀ i ∈ acc, i ∈ dedup l acc) ∧ (∀ i ∈ l, i ∈ dedup l acc) ∧ (∀ i ∈ dedup l acc, i ∈ l ∨ i ∈ acc)
  | [], acc, h => ⟨h, fun i hi => hi, fun i hi => by simp at hi, fun i hi => .inr hi⟩
  | j :: l, acc, h => by
    simp only [dedup]
    cases hb : acc.any (Nat.beq j) with
    | true =>
      obtain ⟨h1, h2, h3, h4⟩ := dedup_spec l acc h
      have hj := anyBeq.1 hb
      refine ⟨h1, h2, fun i hi => ?_, fun i hi => ?_⟩
      · simp at hi; rcases hi with rfl | hi
        · exact h2 i hj
        · exact h3 i hi
      · rcases h4 i hi with h | h
        · exact .inl (by simp [h])
        · exact .inr h
    | false =>
      have hj : j ∉ acc := fun hj => by rw [anyBeq.2 hj] at hb; cases hb
      obtain ⟨h1, h2, h3, h4⟩ := dedup_spec l (acc ++ [j]) (by
        rw [List.nodup_append]
        refine ⟨h, by simp, fun a ha b hb => ?_⟩
        simp at hb; subst hb
        exact fun e => hj (e ▸ ha))
      refine ⟨h1, fun i hi => h2 i (by simp [hi]), fun i hi => ?_, fun i hi => ?_⟩
      · simp at hi; rcases hi with rfl | hi
        · exact h2 _ (by simp)
        · exact h3 i hi
      · rcases h4 i hi with h | h
        · exact .inl (by simp [h])
        · simp at h; rcases h with h | rfl
          · exact .inr h
          · exact .inl (by simp)
theorem indexN_get : ∀ (π : List Nat) (i : Nat), i ∈ π → π[indexN π i]? = some i
  | x :: xs, i, h => by
    simp only [indexN]
    cases hb : Nat.beq x i with
    | true => simp only [cond_true]; rw [Nat.eq_of_beq_eq_true hb]; rfl
    | false =>
      simp only [cond_false]
      have hne : i ≠ x := fun e => by subst e; simp at hb
      simp [hne] at h
      rw [List.getElem?_cons_succ]
      exact indexN_get xs i h
section
variable {P : Program} {X : XCtx P} {ro : RO} {m : Mm} {r : β}
theorem findSpec_sound {f : FuncId} {args : List S} {ins : List SBox} {K : S → List SBox → Option β} : ∀ {ss : List (XSpec P)}, findSpec ss f args ins K = some (some r) →
    ∃ res outs, K res outs = some r ∧ isGo P f = true ∧ Go.Eng.Fn P f (toVL args) (ins.map toBox) (toV res) (outs.map toBox) ∧ noLocS res = true ∧ (∀ B ∈ outs, noLocB B = true) ∧ outs.length = ins.length
  | [], h => by cases h
  | s :: ss, h => by
    simp only [findSpec] at h
    cases hf : Nat.beq s.f f with
    | false => rw [hf] at h; exact findSpec_sound h
    | true =>
      rw [hf] at h
      simp only [cond_true] at h
      have e := Nat.eq_of_beq_eq_true hf
      cases hr : s.run args ins K with
      | none => rw [hr] at h; exact findSpec_sound h
      | some o =>
        rw [hr] at h
        simp only [Option.some.injEq] at h
        subst h
        have := s.sound args ins K r hr
        rwa [e] at this
theorem getB_lt {i : Nat} {B : SBox} (h : getB ro m i = some B) (ho : ro.ownB i = true) : i < m.bx.length := by
  unfold getB at h
  rw [ho] at h
  simp only [cond_true] at h
  cases hq : m.bx[i]? with
  | none => rw [hq] at h; cases h
  | some _ => exact (List.getElem?_eq_some_iff.1 hq).1
theorem bltS {a b : Nat} (h : Nat.blt a b = true) : a < b := Nat.le_of_ble_eq_true h
theorem getB_set {sl : T (S × Tk)} {bx : List (Option SBox)} {i j : Nat} {B : SBox} (ho : ro.ownB i = true) (hi : i < bx.length) : getB ro ⟨sl, bx.set i (some B)⟩ j = if j = i then some B else getB ro ⟨sl, bx⟩ j := by
  unfold getB
  by_cases h : j = i
  · subst h; rw [if_pos rfl, ho]; simp [hi]
  · rw [if_neg h]
    cases hq : ro.ownB j
    · rfl
    · simp only [cond_true]
      rw [List.getElem?_set_ne (Ne.symm h)]
theorem getB_push {sl : T (S × Tk)} {bx : List (Option SBox)} {j : Nat} {B : SBox} (hn : Nat.ble ro.nb bx.length = true) : getB ro ⟨sl, bx ++ [some B]⟩ j = if j = bx.length then some B else getB ro ⟨sl, bx⟩ j := by
  unfold getB
  by_cases h : j = bx.length
  · subst h
    have : ro.ownB bx.length = true := by unfold RO.ownB; rw [hn]; rfl
    rw [if_pos rfl, this]
    simp
  · rw [if_neg h]
    cases hq : ro.ownB j
    · rfl
    · simp only [cond_true]
      rcases Nat.lt_or_ge j bx.length with q | q
      · rw [List.getElem?_append_left q]
      · rw [List.getElem?_eq_none (by simp; omega), List.getElem?_eq_none (by omega)]
theorem toSt_setBox {sl : T (S × Tk)} {bx : List (Option SBox)} {i : Nat} {B : SBox} (ho : ro.ownB i = true) (hi : i < bx.length) : toSt ro ⟨sl, bx.set i (some B)⟩ = (toSt ro ⟨sl, bx⟩).setBox i (toBox B) := by
  unfold toSt St.setBox
  congr 1
  · simp
  · funext j
    unfold upd
    rw [getB_set ho hi]
    split <;> rfl
theorem boxesX_sound : ∀ {π : List Nat} {ins : List SBox}, boxesX ro m π = some ins → boxesOK (toSt ro m) π (ins.map toBox) ∧ (∀ i ∈ π, ro.ownB i = true ∧ i < m.bx.length)
  | [], ins, h => by simp only [boxesX, Option.some.injEq] at h; subst h; exact ⟨trivial, fun i hi => by simp at hi⟩
  | i :: π, ins, h => by
    simp only [boxesX] at h
    split at h
    · rename_i B hB
      obtain ⟨h1, h2⟩ := condS h
      simp only [Bool.and_eq_true] at h1
      split at h2
      · rename_i bs hbs
        cases h2
        obtain ⟨q1, q2⟩ := boxesX_sound hbs
        refine ⟨⟨⟨?_, noLocB_V h1.1⟩, q1⟩, fun j hj => ?_⟩
        · show (getB ro m i).map toBox = _
          rw [hB]; rfl
        · simp at hj
          rcases hj with rfl | hj
          · exact ⟨h1.2, getB_lt hB h1.2⟩
          · exact q2 j hj
      · cases h2
    · cases h
theorem setBs_sound : ∀ {π : List Nat} {outs : List SBox} {bx : List (Option SBox)} {sl : T (S × Tk)}, π.length = outs.length → (∀ i ∈ π, ro.ownB i = true ∧ i < bx.length) →
    toSt ro ⟨sl, setBs bx π outs⟩ = (toSt ro ⟨sl, bx⟩).setBoxes π (outs.map toBox)
  | [], [], bx, sl, _, _ => by simp [setBs, St.setBoxes]
  | [], _ :: _, _, _, h, _ => by simp at h
  | _ :: _, [], _, _, h, _ => by simp at h
  | i :: π, B :: outs, bx, sl, h, ho => by
    simp only [setBs, List.map_cons, St.setBoxes]
    rw [setBs_sound (by simpa using h) (fun j hj => by
      have := ho j (by simp [hj])
      exact ⟨this.1, by simpa using this.2⟩), toSt_setBox (ho i (by simp)).1 (ho i (by simp)).2]
theorem toSt_box_len {m : Mm} (h : Nat.ble ro.nb m.bx.length = true) : (toSt ro m).box (toSt ro m).nb = none := by
  show (getB ro m m.bx.length).map toBox = none
  unfold getB RO.ownB
  rw [h]
  simp
variable {Kp : St → Prop}
theorem callX_sound {dr : Bool} {f : FuncId} {first args cap : List S} {dst : Option Nat} {k : Mm → Option β} (hK : ∀ m', k m' = some r → Kp (toSt ro m')) (h : callX X ro dr m f args dst k = some r) :
    callVC P f (toVL args) (fun v => Kp ((toSt ro m).put dst v none)) ∨ (dr = false ∧ callBVC P f (toVL args) (toSt ro m) dst (Kp)) := by
  unfold callX at h
  split at h
  · rename_i hd
    split at h
    · rename_i o ho
      subst h
      obtain ⟨res, outs, h1, h2, h3, h4, h5, h6⟩ := findSpec_sound (ss := X.known) ho
      obtain ⟨m', e, hk⟩ := putX_sound h1
      have ho : outs = [] := List.eq_nil_of_length_eq_zero (by simpa using h6)
      subst ho
      refine .inl ⟨h2, ?_, toV res, h3, ?_⟩
      rotate_left
      · have := hK m' hk; rw [← e] at this; exact this
      have hl : locsSL args = [] := by
        cases hq : locsSL args with
        | nil => rfl
        | cons i l =>
          have := (dedup_spec (locsSL args) [] (by simp)).2.2.1 i (by rw [hq]; simp)
          rw [hd] at this; simp at this
      exact noLocSL_V _ (noLocSL_of_locs _ hl)
    · cases h
  · rename_i hd
    have hdr : dr = false ∧ Nat.ble ro.nb m.bx.length = true := by
      cases dr <;> cases hb : Nat.ble ro.nb m.bx.length <;> rw [hb] at h <;> first | (cases h; done) | exact ⟨rfl, rfl⟩
    obtain ⟨hdr, hnb⟩ := hdr
    subst hdr
    · rw [hnb] at h
      simp only [Bool.not_true, Bool.or_self, cond_false] at h
      split at h
      · rename_i ins hins
        split at h
        · rename_i o ho
          subst h
          obtain ⟨res, outs, h1, h2, h3, h4, h5, h6⟩ := findSpec_sound (ss := X.known) ho
          obtain ⟨m', e, hk⟩ := putX_sound h1
          obtain ⟨b1, b2⟩ := boxesX_sound hins
          obtain ⟨d1, _, d3, _⟩ := dedup_spec (locsSL args) [] (by simp)
          obtain ⟨l1, l2⟩ := boxesOK_spec b1
          have hlen : (dedup (locsSL args) []).length = outs.length := by rw [l1, h6]; simp
          refine .inr ⟨rfl, h2, dedup (locsSL args) [], _, _, _, _, d1, toSt_box_len hnb, ?_, b1, by simp [h6], ?_, noLocS_V _ h4, h3, ?_⟩
          · rw [ren_toVL]
            intro i hi
            have := indexN_get _ i (d3 i hi)
            simp [List.getD, this]
          · intro B hB
            obtain ⟨B', hB', rfl⟩ := List.mem_map.1 hB
            exact noLocB_V (h5 B' hB')
          · have := hK m' hk
            rw [← e, setBs_sound hlen b2] at this
            exact this
        · cases h
      · cases h
theorem newBoxX_sound {B : SBox} {dst : Option Nat} {v : S} {k : Mm → Option β} (hK : ∀ m', k m' = some r → Kp (toSt ro m')) (h : newBoxX ro m B dst v k = some r) :
    (toSt ro m).box (toSt ro m).nb = none ∧ Kp (({ nb := m.bx.length + 1, sl := (toSt ro m).sl, box := upd (toSt ro m).box m.bx.length (some (toBox B)) } : St).put dst (toV v) none) := by
  unfold newBoxX at h
  obtain ⟨h1, h2⟩ := condS h
  refine ⟨toSt_box_len h1, ?_⟩
  obtain ⟨m', e, hk⟩ := putX_sound h2
  have := hK m' hk
  rw [← e] at this
  refine (congrArg Kp ?_).mp this
  congr 1
  unfold toSt
  congr 1
  · simp
  · funext j
    unfold upd
    rw [getB_push h1]
    split <;> rfl
theorem boxX_sound {e : TypeId} {v : S} {dst : Option Nat} {k : Mm → Option β} (hK : ∀ m', k m' = some r → Kp (toSt ro m')) (h : boxX ro m e v dst k = some r) : boxVC (toSt ro m) e (toV v) dst (Kp) := by
  unfold boxX at h
  split at h
  · rename_i n hn
    obtain ⟨h1, h2⟩ := condS h
    obtain ⟨h3, h4⟩ := newBoxX_sound hK h2
    refine ⟨?_, by rw [cszS_V hn]; rfl, h3, ?_⟩
    · exact bltS h1
    · have e1 : toBox (.cells (cellsS v) e) = ⟨(toV v).cellsL, e⟩ := by simp [toBox, cellsS_V hn]
      rw [e1] at h4
      simp only [toV] at h4
      exact h4
  · cases h
theorem arrCells_V {c : C} : ∀ (n : Nat) (l : List (den c)) (k : Nat), toVL (arrCells c n l k) = (List.range' k n).map fun k => enc c (l.getD k (dfl c))
  | 0, _, _ => rfl
  | n + 1, l, k => by
    simp only [arrCells, toVL, List.range'_succ, List.map_cons, refl_enc]
    rw [arrCells_V n l (k + 1)]
theorem storeX_sound {t : TypeId} {x y : S} {dst : Option Nat} {k : Mm → Option β} (hK : ∀ m', k m' = some r → Kp (toSt ro m')) (h : storeX X ro m t x y dst k = some r) : storeVC P t (toSt ro m) (toV x) (toV y) dst (Kp) := by
  unfold storeX at h
  split at h
  · rename_i i off
    split at h
    · rename_i cs ty n n' hB hs hy
      obtain ⟨h1, h2⟩ := condS h
      simp only [Bool.and_eq_true] at h1
      obtain ⟨⟨⟨a1, a2⟩, a3⟩, a4⟩ := h1
      have a2' := Nat.eq_of_beq_eq_true a2
      subst a2'
      have hb : (toSt ro m).box i = some ⟨toVL cs, ty⟩ := by show (getB ro m i).map toBox = _; rw [hB]; rfl
      simp only [toV, storeVC, hb, hs]
      refine ⟨?_, cszS_V hy, by rw [toVL_length]; exact Nat.le_of_ble_eq_true a3, trivial, ?_⟩
      · exact bltS a1
      · have := hK _ h2
        rw [toSt_setBox a4 (getB_lt hB a4)] at this
        simp only [toBox, toVL_append, toVL_take, toVL_drop, cellsS_V hy] at this
        exact this
    · cases h
  · rename_i i a n ix
    split at h
    · rename_i cs ty c z hB hc hz
      split at h
      · rename_i l v hl hv
        obtain ⟨h1, h2⟩ := condS h
        simp only [Bool.and_eq_true] at h1
        obtain ⟨⟨⟨⟨⟨a1, a2⟩, a5⟩, a6⟩, a3⟩, a4⟩ := h1
        have hz1 := Nat.eq_of_beq_eq_true a2
        subst hz1
        have hc1 := Nat.eq_of_beq_eq_true a5
        have hle := Nat.le_of_ble_eq_true a3
        obtain ⟨l', h3, h4⟩ := bind_some h2
        unfold putA at h3
        split at h3
        case isFalse => cases h3
        rename_i hin
        cases h3
        have hb : (toSt ro m).box i = some ⟨toVL cs, ty⟩ := by show (getB ro m i).map toBox = _; rw [hB]; rfl
        have hseg := unreflL_V hl
        have hlen : l.length = n := by
          have := congrArg List.length hseg
          rw [toVL_length, List.length_map, List.length_take, List.length_drop] at this
          omega
        have hvv : toV y = enc c v := unrefl_enc hv
        have hcell : (toV y).cellsL = [toV y] := by cases y <;> first | rfl | (simp only [toV]; exact iv_cellsL _) | (simp only [toV]; split <;> rfl) | exact absurd a6 (by simp [noAgg])
        simp only [toV, storeVC, hb, hz]
        refine ⟨bltS a1, by rw [hvv, enc_csize, hc1], by rw [toVL_length]; omega, trivial, ?_⟩
        have := hK _ h4
        rw [toSt_setBox a4 (getB_lt hB a4)] at this
        simp only [toBox, toVL_append, toVL_take, toVL_drop, arrCells_V, hcell] at this ⊢
        have e : (toVL cs).take a ++ ((List.range' 0 n).map fun k => enc c ((l.set ix.toNat v).getD k (dfl c))) ++ (toVL cs).drop (a + n) = (toVL cs).take (a + ix.toNat) ++ [toV y] ++ (toVL cs).drop (a + ix.toNat + 1) := by
          have hx : ix.toNat < n := by omega
          have hN : (toVL cs).length = cs.length := toVL_length cs
          refine List.ext_getElem? fun q => ?_
          rw [toVL_seg] at hseg
          have hsg : ∀ q, q < n → (toVL cs)[a + q]? = some (enc c (l.getD q (dfl c))) := by
            intro q hq
            have : (((toVL cs).drop a).take n)[q]? = (l.map (enc c))[q]? := by rw [hseg]
            rw [List.getElem?_take, if_pos hq, List.getElem?_drop, List.getElem?_map] at this
            rw [this, List.getElem?_eq_getElem (by omega), List.getD_eq_getElem?_getD, List.getElem?_eq_getElem (by omega)]
            rfl
          rw [List.append_assoc, List.append_assoc]
          by_cases q1 : q < a
          · rw [List.getElem?_append_left (by simp; omega), List.getElem?_append_left (by simp; omega), List.getElem?_take, List.getElem?_take, if_pos q1, if_pos (by omega)]
          · rw [List.getElem?_append_right (by simp; omega), List.length_take, Nat.min_eq_left (by omega)]
            by_cases q2 : q < a + n
            · rw [List.getElem?_append_left (by simp; omega), List.getElem?_map, List.getElem?_range' (by omega)]
              simp only [Option.map_some, Nat.zero_add, Nat.one_mul]
              by_cases q3 : q = a + ix.toNat
              · subst q3
                rw [List.getElem?_append_right (by simp; omega), List.length_take, Nat.min_eq_left (by omega)]
                have : a + ix.toNat - a = ix.toNat := by omega
                rw [this, List.getD_eq_getElem?_getD, List.getElem?_set_self (by omega), hvv]
                simp
              · have hs' : (l.set ix.toNat v).getD (q - a) (dfl c) = l.getD (q - a) (dfl c) := by
                  rw [List.getD_eq_getElem?_getD, List.getD_eq_getElem?_getD, List.getElem?_set_ne (by omega)]
                rw [hs', ← hsg (q - a) (by omega)]
                have : a + (q - a) = q := by omega
                rw [this]
                by_cases q4 : q < a + ix.toNat
                · rw [List.getElem?_append_left (by simp; omega), List.getElem?_take, if_pos q4]
                · rw [List.getElem?_append_right (by simp; omega), List.length_take, Nat.min_eq_left (by omega), List.getElem?_append_right (by simp; omega), List.getElem?_drop]
                  congr 1
                  simp; omega
            · rw [List.getElem?_append_right (by simp; omega), List.getElem?_drop, List.getElem?_append_right (by simp; omega), List.length_take, Nat.min_eq_left (by omega), List.getElem?_append_right (by simp; omega), List.getElem?_drop]
              congr 1
              simp; omega
        rw [e] at this
        exact this
      · cases h
    · cases h
  · cases h
theorem clrX_V (t : Nat) (x : S × Tk) : (toV (clrX t x).1, (clrX t x).2) = clr t (toV x.1, x.2) := by
  obtain ⟨s, tk⟩ := x
  unfold clrX clr
  cases tk with
  | none => rfl
  | some p =>
    obtain ⟨t', e⟩ := p
    simp only
    by_cases h : t' = t
    · subst h; simp
    · have h1 : Nat.beq t' t = false := beqF h
      by_cases h2 : t' = t + 3000000
      · subst h2; simp
      · have h3 : Nat.beq t' (t + 3000000) = false := beqF h2
        rw [h1, h3]; simp [h, h2]
structure ROok (mu : Bool) (ro : RO) : Prop where
  idem : ∀ s, unTok mu (ro.sl s) = ro.sl s
  tok : ∀ s t e, (ro.sl s).2 = some (t, e) → tcl t = 2
  flat : ro.fl = true → ∀ s, ro.own s = false → (ro.sl s).2 ≠ none ∨ flatS (ro.sl s).1 = true
  boxes : ro.fl = true → ∀ i B, ro.ownB i = false → ro.bx i = some B → flatB B = true
theorem clrX_old {t : Nat} (ht : tcl t < 2) {x : S × Tk} (h : ∀ t' e, x.2 = some (t', e) → tcl t' = 2) : clrX t x = x := by
  obtain ⟨s, tk⟩ := x
  unfold clrX
  cases tk with
  | none => rfl
  | some p =>
    obtain ⟨t', e⟩ := p
    have h2 := h t' e rfl
    simp only
    have h1 : Nat.beq t' t = false := beqF (fun e => by subst e; omega)
    have h3 : Nat.beq t' (t + 3000000) = false := beqF (fun e => by unfold tcl at *; omega)
    rw [h1, h3]; rfl
theorem getS_map {mu : Bool} (hro : ROok mu ro) {t : Nat} (ht : tcl t < 2) (s : Nat) : getS ro ⟨m.sl.mapV (clrX t), m.bx⟩ s = clrX t (getS ro m s) := by
  unfold getS
  cases ro.own s
  · exact (clrX_old ht (hro.tok s)).symm
  · simp only [cond_true]
    rw [T.get_mapV]
    cases m.sl.get s <;> rfl
theorem toSt_clear {mu : Bool} (hro : ROok mu ro) {t : Nat} (ht : tcl t < 2) : toSt ro ⟨m.sl.mapV (clrX t), m.bx⟩ = (toSt ro m).clear t := by
  unfold toSt St.clear
  congr 1
  funext s
  rw [getS_map hro ht]
  exact clrX_V t _
theorem putV'_sound {mu : Bool} (hro : ROok mu ro) {dr : Bool} {o : Oper} {v : S} {tk : Tk} {k : Mm → Option β} (h : putV' ro m dr o v tk k = some r) :
    ∃ m', tokOK dr o tk ∧ putV o (toSt ro m) (toV v) tk = toSt ro m' ∧ k m' = some r := by
  unfold putV' at h
  unfold putV tokOK
  cases hcp : isCopy o with
  | true =>
    rw [hcp] at h
    obtain ⟨m', q1, q2⟩ := putX_sound h
    exact ⟨m', (fun _ h => by cases h), q1, q2⟩
  | false =>
    rw [hcp] at h
    simp only [cond_false] at h ⊢
    cases tk with
    | none =>
      obtain ⟨m', q1, q2⟩ := putX_sound h
      exact ⟨m', (fun _ _ _ _ h => by cases h), q1, q2⟩
    | some te =>
      obtain ⟨t, e⟩ := te
      simp only at h
      obtain ⟨h1, h2⟩ := condS h
      simp only [Bool.and_eq_true, Bool.or_eq_true] at h1
      obtain ⟨m', q1, q2⟩ := putX_sound h2
      rw [toSt_clear hro (bltS h1.1)] at q1
      refine ⟨m', fun hdr _ t' e' ht => ?_, q1, q2⟩
      cases ht
      have h3 := h1.2
      rw [hdr] at h3
      simp only [Bool.not_true, Bool.false_eq_true, false_or] at h3
      refine ⟨h3.1, ?_, bltS h1.1⟩
      have h3 := h3.2
      split at h3
      · rename_i d hd
        rw [hd, Nat.eq_of_beq_eq_true h3]
      · cases h3
theorem app_spec {α : Type} {b : Nat} {l q y : List α} (h : app b l q = some y) : (l.length + q.length) * b ≤ 140737488355328 ∧ y = l ++ q := by
  obtain ⟨h1, h2⟩ := iteS h; cases h2; exact ⟨h1, rfl⟩
theorem appendX_sound {mu : Bool} (hro : ROok mu ro) {ss : Nat} {x : S} {t u : TypeId} {dst : Option Nat} {k : Mm → Option β} (hK : ∀ m', k m' = some r → Kp (toSt ro m')) (h : appendX (P := P) ro m ss x t u dst k = some r) : appendVC P (toSt ro m) ss (toV x) t u dst (Kp) := by
  unfold appendX at h
  split at h
  · rename_i c l tk e e' hg ht
    have henv : (toSt ro m).env ss = .list (l.map (enc c)) := by show toV (getS ro m ss).1 = _; rw [hg]; simp [toV]
    have htok : (toSt ro m).tok ss = some (tk, e) := by show (getS ro m ss).2 = _; rw [hg]
    unfold appendVC
    simp only [henv, htok, ht]
    split at h
    · rename_i sz by' zv hs hb hz
      simp only [hs, hb, zeroX_V hz]
      split at h
      · rename_i zn hzn
        obtain ⟨h1, h2⟩ := condS h
        simp only [Bool.and_eq_true, Bool.not_eq_true'] at h1
        obtain ⟨⟨⟨⟨⟨a1, a0⟩, a2⟩, a3⟩, a4⟩, a5⟩ := h1
        have a0' := bltS a0
        have a1' := Nat.eq_of_beq_eq_true a1
        have a3' := Nat.eq_of_beq_eq_true a3
        have a4' := Nat.eq_of_beq_eq_true a4
        subst a3'
        refine ⟨⟨a1', a0', a2, cszS_V hzn, fun e => by subst e; cases a5⟩, by rw [← a4']; exact rowsOK_lst c l, ?_⟩
        have fin : ∀ (l2 : List (den c)), ((app by' l l2).bind fun r => putX ro ⟨m.sl.mapV (clrX tk), m.bx⟩ dst (.lst c r) (some (tk, e)) k) = some r →
            ((l.map (enc c)).length + l2.length) * by' ≤ 140737488355328 ∧ Kp (((toSt ro m).clear tk).put dst (.list (l.map (enc c) ++ l2.map (enc c))) (some (tk, e))) := by
          intro l2 h
          obtain ⟨y, q1, q2⟩ := bind_some h
          obtain ⟨q3, rfl⟩ := app_spec q1
          obtain ⟨m', e1, hk⟩ := putX_sound q2
          have := hK m' hk
          rw [← e1, toSt_clear hro a0'] at this
          refine ⟨by simpa using q3, ?_⟩
          simpa [toV] using this
        split at h2
        · rename_i c' l2
          split at h2
          · rename_i hc
            subst hc
            obtain ⟨q1, q2⟩ := fin l2 h2
            simp only [toV]
            exact ⟨by rw [← a4']; exact rowsOK_lst _ l2, by simpa using q1, q2⟩
          · cases h2
        · obtain ⟨q1, q2⟩ := fin [] h2
          simp only [toV, toVL]
          exact ⟨fun v hv => by simp at hv, by simpa using q1, by simpa using q2⟩
        · rename_i s
          split at h2
          · rename_i hc
            subst hc
            obtain ⟨q1, q2⟩ := fin (bytesI s) h2
            simp only [toV]
            refine ⟨a4'.symm, by simpa [bytesI] using q1, ?_⟩
            rwa [bytesI_V] at q2
          · cases h2
        · cases h2
      · cases h
    · cases h
  · cases h
theorem unTok_idem (mu : Bool) (x : S × Tk) : unTok mu (unTok mu x) = unTok mu x := by
  obtain ⟨s, tok⟩ := x
  unfold unTok
  cases tok with
  | none =>
    simp only
    cases h : !mu || flatS s
    · simp [flatS]
    · simp [h]
  | some te =>
    obtain ⟨t, e⟩ := te
    simp only
    cases h2 : Nat.beq (tcl t) 2
    · simp only [cond_false]
      cases h : !mu || flatS s
      · simp [flatS]
      · simp [h]
    · simp [h2]
theorem unTok_Wk (mu : Bool) (x : S × Tk) : Wk (pv (unTok mu x)) (pv x) := by
  obtain ⟨s, tok⟩ := x
  unfold unTok
  cases tok with
  | none =>
    simp only
    cases h : !mu || flatS s
    · exact .inr (.inr (by simp [pv, toV]))
    · exact .inl rfl
  | some te =>
    obtain ⟨t, e⟩ := te
    simp only
    cases h2 : Nat.beq (tcl t) 2
    · simp only [cond_false]
      cases h : !mu || flatS s
      · exact .inr (.inr (by simp [pv, toV]))
      · exact .inr (.inl rfl)
    · exact .inl rfl
theorem unTok_lt {mu : Bool} {n : Nat} {x : S × Tk} (h : ltV n (toV x.1) = true) : ltV n (toV (unTok mu x).1) = true := by
  rcases unTok_Wk mu x with q | q | q
  · have := congrArg Prod.fst q; simp only [pv] at this; rw [this]; exact h
  · have := congrArg Prod.fst q; simp only [pv] at this; rw [this]; exact h
  · have := congrArg Prod.fst q; simp only [pv] at this; rw [this]; rfl
theorem unTok_tok {mu : Bool} {x : S × Tk} {t : Nat} {e : TypeId} (h : (unTok mu x).2 = some (t, e)) : tcl t = 2 := by
  obtain ⟨s, tok⟩ := x
  unfold unTok at h
  cases tok with
  | none =>
    simp only at h
    cases hq : !mu || flatS s <;> rw [hq] at h <;> cases h
  | some te =>
    obtain ⟨t', e'⟩ := te
    simp only at h
    cases h2 : Nat.beq (tcl t') 2
    · rw [h2] at h
      simp only [cond_false] at h
      cases hq : !mu || flatS s <;> rw [hq] at h <;> cases h
    · rw [h2] at h
      cases h
      exact Nat.eq_of_beq_eq_true h2
theorem unTok_flat {x : S × Tk} : (unTok true x).2 ≠ none ∨ flatS (unTok true x).1 = true := by
  obtain ⟨s, tok⟩ := x
  unfold unTok
  cases tok with
  | none =>
    simp only [Bool.not_true, Bool.false_or]
    cases h : flatS s
    · exact .inr rfl
    · exact .inr h
  | some te =>
    obtain ⟨t, e⟩ := te
    simp only [Bool.not_true, Bool.false_or]
    cases h2 : Nat.beq (tcl t) 2
    · simp only [cond_false]
      cases h : flatS s
      · exact .inr rfl
      · exact .inr h
    · exact .inl (by simp)
theorem flatSV : ∀ s : S, flatS s = true → (toV s).flat = true ∧ True := by
  intro s
  suffices h : ∀ s : S, flatS s = true → (toV s).flat = true from fun hs => ⟨h s hs, trivial⟩
  intro s
  induction s using S.rec (motive_2 := fun cs => flatSL cs = true → V.flatL (toVL cs) = true) with
  | any => intro; simp [toV, V.flat]
  | un => intro; simp [toV, V.flat]
  | int => intro; simp [toV, V.flat]
  | bool => intro; simp [toV, V.flat]
  | str => intro; simp [toV, V.flat]
  | agg cs ih => intro h; simp only [flatS] at h; simp only [toV, V.flat]; exact ih h
  | tup cs ih => intro h; simp only [flatS] at h; simp only [toV, V.flat]; exact ih h
  | loc => intro; simp [toV, V.flat]
  | loco => intro; simp [toV, V.flat]
  | elt cs off ih => intro h; simp only [flatS, List.isEmpty_iff] at h; subst h; simp [toV, toVL, V.flat]
  | gel => intro h; simp [flatS] at h
  | nilp => intro; simp [toV, V.flat]
  | lst => intro h; simp [flatS] at h
  | rows vs ih => intro h; simp only [flatS, List.isEmpty_iff] at h; subst h; simp [toV, toVL, V.flat]
  | fn f a b iha ihb =>
    intro h; simp only [flatS, Bool.and_eq_true] at h
    simp only [toV, V.flat, Bool.and_eq_true]; exact ⟨iha h.1, ihb h.2⟩
  | nilfn => intro; simp [toV, V.flat]
  | iface t v ih => intro h; simp only [flatS] at h; simp only [toV, V.flat]; exact ih h
  | nilif => intro; simp [toV, V.flat]
  | mref => intro; simp [toV, V.flat]
  | nilm => intro; simp [toV, V.flat]
  | ptr => intro; simp [toV, V.flat]
  | ivd x => intro; simp only [toV]; cases x <;> simp [enc_iv, V.flat, V.flatL]
  | nil => simp [toVL, V.flatL]
  | cons c cs ih1 ih2 =>
    rename_i h; simp only [flatSL, Bool.and_eq_true] at h
    simp only [toVL, V.flatL, Bool.and_eq_true]; exact ⟨ih1 h.1, ih2 h.2⟩
theorem flatS_V {s : S} (h : flatS s = true) : (toV s).flat = true := (flatSV s h).1
theorem flatSL_V : ∀ {cs : List S}, flatSL cs = true → V.flatL (toVL cs) = true
  | [], _ => by simp [toVL, V.flatL]
  | c :: cs, h => by
    simp only [flatSL, Bool.and_eq_true] at h
    simp only [toVL, V.flatL, Bool.and_eq_true]; exact ⟨flatS_V h.1, flatSL_V h.2⟩
theorem codeFlat_refl {c : C} (h : codeFlat c = true) (x : den c) : flatS (refl c x) = true := by
  cases c <;> first | rfl | (simp [codeFlat] at h)
theorem codeFlat_enc {c : C} (h : codeFlat c = true) (x : den c) : (enc c x).flat = true := by
  rw [← refl_enc]; exact flatS_V (codeFlat_refl h x)
theorem codeFlat_lst {c : C} (h : codeFlat c = true) (l : List (den c)) : V.flatL (l.map (enc c)) = true :=
  flatL_of fun v hv => by obtain ⟨x, _, rfl⟩ := List.mem_map.1 hv; exact codeFlat_enc h x
theorem flatB_V {B : SBox} (h : flatB B = true) : V.flatL (toBox B).cells = true := by
  cases B with
  | cells cs ty => exact flatSL_V h
  | map mt kc vc l =>
    simp only [flatB, Bool.and_eq_true] at h
    refine flatL_of fun v hv => ?_
    obtain ⟨x, _, rfl⟩ := List.mem_map.1 hv
    simp [V.flat, V.flatL, codeFlat_enc h.1, codeFlat_enc h.2]
theorem opok_weak {P : Program} {n' : Nat} {o : Oper} {st : St} {K K' : St → Prop} (h : OpOK P n' o st K') (hw : ∀ st', K' st' → ∃ sl', (∀ s, Wk (sl' s) (st'.sl s)) ∧ K ⟨st'.nb, sl', st'.box⟩) : OpOK P n' o st K := by
  intro F a w pr lam hF hs next Q hn
  refine h F a w pr lam hF hs next Q fun st' a' w' pr' lam' hk hs' => ?_
  obtain ⟨sl', h1, h2⟩ := hw st' hk
  exact hn _ a' w' pr' lam' h2 (SRel.weak hs' h1)
theorem iaddrTX_sound {o : Oper} {t : TypeId} {ss : Nat} {ix : Operand} {k : Mm → Option β} (ho : o.op = .indexAddr t (.tmp ss) ix) (hK : ∀ m', k m' = some r → Kp (toSt ro m')) (h : iaddrTX (P := P) ro m t ss (evalX ro m ix) o.dst k = some r) :
    semVC P o (toSt ro m) Kp := by
  intro n' hd _
  unfold iaddrTX at h
  split at h
  · rename_i c l tk e kk i hg hi
    split at h
    · rename_i e' sz he
      obtain ⟨h1, h2⟩ := condS h
      simp only [Bool.and_eq_true] at h1
      have a1 := Nat.eq_of_beq_eq_true h1.1
      have a2 := Nat.eq_of_beq_eq_true h1.2
      subst a2
      obtain ⟨e1, e2, rfl⟩ := elemC_spec he
      rcases brS h2 with ⟨hb, h2⟩ | ⟨_, h2⟩
      · obtain ⟨b1, b2⟩ := inB_spec hb
        obtain ⟨m', q1, q2⟩ := putX_sound h2
        have hs : (toSt ro m).env ss = .list (l.map (enc c)) := by show toV (getS ro m ss).1 = _; rw [hg]; simp [toV]
        have ht : (toSt ro m).tok ss = some (tk, e) := by show (getS ro m ss).2 = _; rw [hg]
        refine opok_iaddrT (k := kk) (i := i) ho hs ht a1 (by rw [← evalX_V, hi]; simp [toV]) (sliceT_spec e1) e2 (rowsOK_lst c l) b1 (by simpa using b2) hd ?_
        have := hK m' q2
        rw [← q1] at this
        simpa [toV] using this
      · cases h2
    · cases h
  · cases h
theorem faddrTX_sound {o : Oper} {s : TypeId} {d0 fi : Nat} {k : Mm → Option β} (ho : o.op = .fieldAddr s (.tmp d0) fi) (hK : ∀ m', k m' = some r → Kp (toSt ro m')) (h : faddrTX (P := P) ro m s d0 fi o.dst k = some r) :
    semVC P o (toSt ro m) Kp := by
  intro n' hd _
  unfold faddrTX at h
  split at h
  · rename_i i sz f u e fo t hg hf
    split at h
    · rename_i n hn
      obtain ⟨h1, h2⟩ := condS h
      simp only [Bool.and_eq_true, Bool.not_eq_true'] at h1
      have a1 : n ≠ 0 := fun e => by subst e; cases h1.1.1
      have a2 := Nat.le_of_ble_eq_true h1.1.2
      have a3 := Nat.eq_of_beq_eq_true h1.2
      obtain ⟨m', q1, q2⟩ := putX_sound h2
      have hu : u - 3000000 + 3000000 = u := by omega
      have hs : (toSt ro m).env d0 = .ptr (i.toNat * sz + f) := by show toV (getS ro m d0).1 = _; rw [hg]; simp [toV]
      have ht : (toSt ro m).tok d0 = some (u - 3000000 + 3000000, e) := by show (getS ro m d0).2 = _; rw [hg, hu]
      refine opok_faddrT ho hs ht a3 hf hn a1 hd ?_
      have := hK m' q2
      rw [← q1] at this
      rw [hu, Nat.add_assoc]
      simpa only [toV] using this
    · cases h
  · cases h
theorem loadTX_sound {o : Oper} {t : TypeId} {d0 : Nat} {k : Mm → Option β} (ho : o.op = .load t (.tmp d0)) (hK : ∀ m', k m' = some r → Kp (toSt ro m')) (h : loadTX (P := P) ro m t d0 o.dst k = some r) :
    semVC P o (toSt ro m) Kp := by
  intro n' hd _
  unfold loadTX at h
  split at h
  · rename_i i sz f u e0 hg
    split at h
    · rename_i ss _
      split at h
      · rename_i c l tk e n ag hs hn ha
        obtain ⟨h1, h2⟩ := condS h
        simp only [Bool.and_eq_true] at h1
        obtain ⟨⟨⟨a1, a2⟩, a3⟩, a4⟩ := h1
        have a1' := Nat.eq_of_beq_eq_true a1
        have a2' := Nat.eq_of_beq_eq_true a2
        have a3' := Nat.eq_of_beq_eq_true a3
        subst a1'; subst a3'
        have a4' : sizeT P e = some (csz c) := by
          split at a4
          · rename_i z hz; rw [hz, Nat.eq_of_beq_eq_true a4]
          · cases a4
        obtain ⟨x, hx, h3⟩ := bind_some h2
        obtain ⟨q1, q2, q3⟩ := idx_spec hx
        have e1 : (toSt ro m).env d0 = .ptr (i.toNat * csz c + f) := by show toV (getS ro m d0).1 = _; rw [hg]; simp [toV]
        have e2 : (toSt ro m).tok d0 = some (tk + 3000000, e0) := by show (getS ro m d0).2 = _; rw [hg]
        have e3 : (toSt ro m).env ss = .list (l.map (enc c)) := by show toV (getS ro m ss).1 = _; rw [hs]; simp [toV]
        have e4 : (toSt ro m).tok ss = some (tk, e) := by show (getS ro m ss).2 = _; rw [hs]
        have e5 : (l.map (enc c))[i.toNat]? = some (enc c x) := by rw [List.getElem?_map, q3]; rfl
        have hcl : (enc c x).cellsL = toVL (cellsS (refl c x)) := (refl_cells c x).symm
        split at h3
        · obtain ⟨h4, h5⟩ := condS h3
          obtain ⟨m', p1, p2⟩ := putX_sound h5
          refine opok_loadT ho e1 e2 a2' e3 e4 a4' (rowsOK_lst c l) e5 hn (.inl ⟨ha, ?_, rfl⟩) hd ?_
          · rw [hcl, toVL_length]; exact Nat.le_of_ble_eq_true h4
          · have := hK m' p2
            rw [← p1] at this
            rw [hcl]
            simpa only [toV, toVL_seg] using this
        · split at h3
          · rename_i y hy
            obtain ⟨m', p1, p2⟩ := putX_sound h3
            refine opok_loadT ho e1 e2 a2' e3 e4 a4' (rowsOK_lst c l) e5 hn (.inr ⟨ha, by rw [hcl, toVL_get, hy]; rfl⟩) hd ?_
            have := hK m' p2
            rw [← p1] at this
            exact this
          · cases h3
      · cases h
    · cases h
  · cases h
theorem keepX_V (tk : Nat) {c : C} (l' : List (den c)) (x : S × Tk) : Wk (pv (keepX tk (.lst c l') x)) (keepS tk (l'.map (enc c)) (pv x)) := by
  obtain ⟨s, tok⟩ := x
  cases tok with
  | none =>
    unfold keepX keepS pv
    simp only
    cases hf : flatS s with
    | true => rw [if_pos (flatS_V hf)]; exact .inl rfl
    | false => exact .inr (.inr (by simp [toV]))
  | some te =>
    obtain ⟨t, e⟩ := te
    unfold keepX keepS pv
    simp only
    by_cases h1 : t = tk
    · subst h1
      simp only [Nat.beq_refl, cond_true, if_true]
      exact .inl (by simp [toV])
    · have : Nat.beq t tk = false := beqF h1
      rw [this, if_neg h1]
      simp only [cond_false]
      by_cases h2 : tcl t = 2
      · rw [if_pos h2, h2]; exact .inl rfl
      · have : Nat.beq (tcl t) 2 = false := beqF h2
        rw [this, if_neg h2]
        simp only [cond_false]
        cases hf : flatS s with
        | true => rw [if_pos (flatS_V hf)]; exact .inl rfl
        | false =>
          simp only [cond_false]
          by_cases h4 : tcl t = 0
          · rw [h4]
            simp only [Nat.beq_refl, cond_true]
            cases s with
            | lst c' l2 =>
              simp only
              cases hcf : codeFlat c' with
              | false => exact .inr (.inr (by simp [toV]))
              | true =>
                have htv : toV (S.lst c' l2) = .list (l2.map (enc c')) := by simp [toV]
                rw [htv]
                simp only [cond_true]
                have hfl := codeFlat_lst hcf l2
                by_cases hq : (V.list (l2.map (enc c'))).flat = true
                · rw [if_pos hq]; exact .inl rfl
                · rw [if_neg hq, if_pos trivial, if_pos hfl]; exact .inl rfl
            | _ => exact .inr (.inr (by simp [toV]))
          · have : Nat.beq (tcl t) 0 = false := beqF h4
            rw [this]
            exact .inr (.inr (by simp [toV]))
theorem rowPutX_V {c : C} {x x' : den c} {f n : Nat} {y : S} (hy : cszS y = some n) (h : rowPutX c x f n y = some x') :
    enc c x' = rowPut (enc c x) f n (toV y) ∧ (Go.Eng.isAgg (enc c x) = true ∨ (Go.Eng.isAgg (enc c x) = false ∧ Go.Eng.isAgg (toV y) = false ∧ f = 0 ∧ n = 1)) := by
  unfold rowPutX at h
  have he := refl_enc c x
  split at h
  · rename_i cs hc
    rw [hc] at he
    simp only [toV] at he
    rw [← he, ← unrefl_enc h]
    refine ⟨?_, .inl rfl⟩
    simp only [toV, rowPut, toVL_append, toVL_take, toVL_drop, cellsS_V hy]
  · rename_i hne
    obtain ⟨h1, h2⟩ := condS h
    simp only [Bool.and_eq_true] at h1
    have a1 := Nat.eq_of_beq_eq_true h1.1
    have a2 := Nat.eq_of_beq_eq_true h1.2
    split at h2
    · cases h2
    · rename_i hny
      have hag : Go.Eng.isAgg (enc c x) = false := by
        rw [← he]
        cases hr : refl c x with
        | agg cs => exact absurd hr (hne cs)
        | gel g o => simp only [toV]; split <;> rfl
        | ivd x => simp only [toV]; cases x <;> rfl
        | _ => rfl
      have hagy : Go.Eng.isAgg (toV y) = false := by
        cases y with
        | agg cs => exact absurd rfl (hny cs)
        | gel g o => simp only [toV]; split <;> rfl
        | ivd x => simp only [toV]; cases x <;> rfl
        | _ => rfl
      refine ⟨?_, .inr ⟨hag, hagy, a1, a2⟩⟩
      rw [← unrefl_enc h2]
      cases hq : enc c x <;> rw [hq] at hag <;> first | rfl | (simp [Go.Eng.isAgg] at hag)
theorem storeTX_sound {mu : Bool} (hro : ROok mu ro) {o : Oper} {t : TypeId} {d0 : Nat} {y : Operand} {k : Mm → Option β} (ho : o.op = .store t (.tmp d0) y) (hK : ∀ m', k m' = some r → Kp (toSt ro m')) (h : storeTX (P := P) ro m t d0 (evalX ro m y) o.dst k = some r) :
    semVC P o (toSt ro m) Kp := by
  intro n' hd _
  unfold storeTX at h
  split at h
  · rename_i i sz f u e0 hg hdst
    split at h
    · rename_i ss _
      split at h
      · rename_i c l tk e n n2 hs hn hy
        obtain ⟨h1, h2⟩ := condS h
        simp only [Bool.and_eq_true] at h1
        obtain ⟨⟨⟨⟨⟨⟨⟨⟨⟨a1, a2⟩, a3⟩, a4⟩, a5⟩, a6⟩, a7⟩, a8⟩, a9⟩, a10⟩ := h1
        have a1' := Nat.eq_of_beq_eq_true a1
        have a2' := Nat.eq_of_beq_eq_true a2
        have a3' := Nat.eq_of_beq_eq_true a3
        have a5' := Nat.eq_of_beq_eq_true a5
        have a6' := Nat.le_of_ble_eq_true a6
        subst a1'; subst a3'; subst a5'
        have a4' : sizeT P e = some (csz c) := by
          split at a4
          · rename_i z hz; rw [hz, Nat.eq_of_beq_eq_true a4]
          · cases a4
        obtain ⟨x, hx, h3⟩ := bind_some h2
        obtain ⟨q1, q2, q3⟩ := idx_spec hx
        split at h3
        case h_2 => cases h3
        rename_i x' hx'
        obtain ⟨p1, p2⟩ := rowPutX_V hy hx'
        have e1 : (toSt ro m).env d0 = .ptr (i.toNat * csz c + f) := by show toV (getS ro m d0).1 = _; rw [hg]; simp [toV]
        have e2 : (toSt ro m).tok d0 = some (tk + 3000000, e0) := by show (getS ro m d0).2 = _; rw [hg]
        have e3 : (toSt ro m).env ss = .list (l.map (enc c)) := by show toV (getS ro m ss).1 = _; rw [hs]; simp [toV]
        have e4 : (toSt ro m).tok ss = some (tk, e) := by show (getS ro m ss).2 = _; rw [hs]
        have e5 : (l.map (enc c))[i.toNat]? = some (enc c x) := by rw [List.getElem?_map, q3]; rfl
        have hbf : ∀ j B, (toSt ro m).box j = some B → V.flatL B.cells = true := by
          intro j B hB
          change (getB ro m j).map toBox = some B at hB
          cases hq : getB ro m j with
          | none => rw [hq] at hB; cases hB
          | some B' =>
            rw [hq] at hB
            cases hB
            refine flatB_V ?_
            unfold getB at hq
            cases hw : ro.ownB j with
            | false => rw [hw] at hq; exact hro.boxes a9 j B' hw hq
            | true =>
              rw [hw] at hq
              simp only [cond_true] at hq
              cases hq2 : m.bx[j]? with
              | none => rw [hq2] at hq; cases hq
              | some ob =>
                rw [hq2] at hq
                simp only [Option.getD_some] at hq
                subst hq
                exact List.all_eq_true.1 a10 _ (List.mem_of_getElem? hq2)
        have main := opok_storeT (P := P) (n' := n') (K := fun st' => st' = (toSt ro m).changed tk ((l.map (enc c)).set i.toNat (rowPut (enc c x) f n2 (toV (evalX ro m y))))) ho e1 e2 a2' e3 e4 a4' (rowsOK_lst c l) (codeFlat_lst a8 l) e5 hn
          (evalX_V ro m y).symm (cszS_V hy) (flatS_V a7) a6' p2 hbf hdst rfl
        refine opok_weak main fun st' hst' => ?_
        subst hst'
        refine ⟨(toSt ro ⟨m.sl.mapV (keepX tk (.lst c (setI l i x'))), m.bx⟩).sl, fun s => ?_, ?_⟩
        · have hrows : (l.map (enc c)).set i.toNat (rowPut (enc c x) f n2 (toV (evalX ro m y))) = (setI l i x').map (enc c) := by
            unfold setI
            rw [List.map_set, p1]
          rw [hrows]
          show Wk (pv (getS ro ⟨m.sl.mapV (keepX tk (.lst c (setI l i x'))), m.bx⟩ s)) (keepS tk _ (pv (getS ro m s)))
          unfold getS
          cases hw : ro.own s with
          | true =>
            simp only [cond_true]
            rw [T.get_mapV]
            cases m.sl.get s with
            | none =>
              simp only [Option.map_none, Option.getD_none]
              exact .inl (by simp [pv, keepS, toV, V.flat])
            | some z =>
              simp only [Option.map_some, Option.getD_some]
              exact keepX_V tk _ z
          | false =>
            simp only [cond_false]
            rcases keepS_cases tk ((setI l i x').map (enc c)) (pv (ro.sl s)) with ⟨e7, q7, _⟩ | q7 | ⟨q7, _⟩
            · exfalso
              have := hro.tok s tk e7 q7
              omega
            · have hfl := hro.flat a9 s hw
              have htk := hro.tok s
              revert q7 hfl htk
              generalize ro.sl s = z
              intro q7 hfl htk
              obtain ⟨zs, zt⟩ := z
              cases zt with
              | none =>
                rcases hfl with hfl | hfl
                · exact absurd rfl hfl
                · have hfz := flatS_V hfl
                  have : keepS tk ((setI l i x').map (enc c)) (pv (zs, none)) = pv (zs, none) := by simp [pv, keepS, hfz]
                  rw [this]; exact .inl rfl
              | some te =>
                obtain ⟨t7, e7⟩ := te
                have h2 := htk t7 e7 rfl
                have hne : t7 ≠ tk := fun e => by subst e; omega
                have : keepS tk ((setI l i x').map (enc c)) (pv (zs, some (t7, e7))) = pv (zs, some (t7, e7)) := by simp [pv, keepS, hne, h2]
                rw [this]; exact .inl rfl
            · rw [q7]; exact .inl rfl
        · have := hK _ h3
          exact this
      · cases h
    · cases h
  · cases h
theorem makeTX_sound {mu : Bool} (hro : ROok mu ro) {o : Oper} {t : TypeId} {xl xc : Operand} {k : Mm → Option β} (ho : o.op = .makeSlice t xl xc) (hK : ∀ m', k m' = some r → Kp (toSt ro m')) (h : makeTX X ro m t (evalX ro m xl) (evalX ro m xc) o.dst k = some r) :
    semVC P o (toSt ro m) Kp := by
  intro n' hd _
  unfold makeTX at h
  split at h
  · rename_i kl l kc n e hl hc he
    split at h
    · rename_i c sz by' zv hcd hsz hby hz
      split at h
      · rename_i z zn hz1 hz2
        obtain ⟨h1, h2⟩ := condS h
        simp only [Bool.and_eq_true] at h1
        have a1 := Nat.eq_of_beq_eq_true h1.1.1
        have a2 := Nat.eq_of_beq_eq_true h1.1.2
        have a3 := Nat.eq_of_beq_eq_true h1.2
        subst a1
        obtain ⟨q, hq, h3⟩ := bind_some h2
        obtain ⟨hq1, hq2⟩ := iteS hq
        cases hq2
        obtain ⟨m', p1, p2⟩ := putX_sound h3
        refine opok_makeSlice (tk := o.dst.getD 0) (kl := kl) (kc := kc) ho (by rw [← evalX_V, hl]; simp only [toV]) (by rw [← evalX_V, hc]; simp only [toV]) (sliceT_spec he) hsz hby (zeroX_V hz) (cszS_V hz2) hq1.1 hq1.2.1 hq1.2.2.1 hq1.2.2.2 a3 hd ?_
        have := hK m' p2
        rw [← p1, toSt_clear hro (by omega)] at this
        simpa [toV, unrefl_enc hz1] using this
      · cases h
    · cases h
  · cases h
theorem both_spec {γ : Type} {A B : Option γ} {r : γ} (h : both A B = some r) : A = some r ∧ B = some r := by
  unfold both at h
  split at h
  · rename_i he
    exact ⟨he.trans h, h⟩
  · cases h
theorem nilq_spec {α γ : Type} {l : List α} {A B : Option γ} {r : γ} (h : nilq l A B = some r) : B = some r ∧ (l = [] → A = some r) := by
  unfold nilq at h
  split at h
  · exact ⟨(both_spec h).2, fun _ => (both_spec h).1⟩
  · exact ⟨h, fun he => by cases he⟩
theorem eqnilX_sound {o : Oper} {op : BinOp} {t u : TypeId} {x : Operand} {k : Mm → Option β} (ho : o.op = .binOp op t x (.const (.slice none 0 0)) u) (hK : ∀ m', k m' = some r → Kp (toSt ro m'))
    (h : eqnilX (P := P) ro m op t (evalX ro m x) o.dst k = some (some r)) : semVC P o (toSt ro m) Kp := by
  intro n' hd _
  unfold eqnilX at h
  split at h
  · rename_i c l e hx he
    simp only [Option.some.injEq] at h
    obtain ⟨h1, h2⟩ := nilq_spec h
    refine opok_eqnil (rows := l.map (enc c)) ho (.inl ⟨rfl, rfl⟩) (sliceT_spec he) (by rw [← evalX_V, hx]; simp only [toV]) hd fun b hb => ?_
    cases b with
    | false =>
      obtain ⟨m', p1, p2⟩ := putX_sound h1
      rw [show V.bool false = toV (.bool false) from by simp only [toV], p1]
      exact hK m' p2
    | true =>
      have hl : l = [] := by
        apply Classical.byContradiction
        intro hne
        have := hb (by simpa using hne)
        cases this
      obtain ⟨m', p1, p2⟩ := putX_sound (h2 hl)
      rw [show V.bool true = toV (.bool true) from by simp only [toV], p1]
      exact hK m' p2
  · rename_i c l e hx he
    simp only [Option.some.injEq] at h
    obtain ⟨h1, h2⟩ := nilq_spec h
    refine opok_eqnil (rows := l.map (enc c)) ho (.inr ⟨rfl, rfl⟩) (sliceT_spec he) (by rw [← evalX_V, hx]; simp only [toV]) hd fun b hb => ?_
    cases b with
    | true =>
      obtain ⟨m', p1, p2⟩ := putX_sound h1
      rw [show V.bool true = toV (.bool true) from by simp only [toV], p1]
      exact hK m' p2
    | false =>
      have hl : l = [] := by
        apply Classical.byContradiction
        intro hne
        have := hb (by simpa using hne)
        cases this
      obtain ⟨m', p1, p2⟩ := putX_sound (h2 hl)
      rw [show V.bool false = toV (.bool false) from by simp only [toV], p1]
      exact hK m' p2
  · cases h
theorem findOwn_spec : ∀ {ss : List (XOwn P)} {f : FuncId} {Q : XOwn P}, findOwn ss f = some Q → Q.f = f
  | [], _, _, h => by cases h
  | s :: ss, f, Q, h => by
    simp only [findOwn] at h
    cases hb : Nat.beq s.f f with
    | true => rw [hb] at h; cases h; exact Nat.eq_of_beq_eq_true hb
    | false => rw [hb] at h; exact findOwn_spec h
theorem ownX_sound {mu : Bool} (hro : ROok mu ro) {o : Oper} {Q : XOwn P} {fo : Operand} {args : Array Operand} {tys : Array TypeId} {first cap : List S} {k : Mm → Option β} (ho : o.op = .call { callee := .value fo, args := args, argTypes := tys })
    (hfo : evalX ro m fo = .fn (.func Q.f) first cap) (hK : ∀ m', k m' = some r → Kp (toSt ro m')) (h : ownX ro m Q (first ++ args.toList.map (evalX ro m) ++ cap) o.dst k = some r) : semVC P o (toSt ro m) Kp := by
  intro n' hd _
  unfold ownX at h
  obtain ⟨h1, h2⟩ := condS h
  simp only [Bool.and_eq_true, List.isEmpty_iff] at h1
  obtain ⟨a1, a2⟩ := h1
  have a2' := Nat.eq_of_beq_eq_true a2
  split at h2
  · rename_i q hq
    obtain ⟨l, hl, h3⟩ := bind_some h2
    subst hl
    obtain ⟨hgo, hF⟩ := Q.sound _ l hq
    obtain ⟨m', p1, p2⟩ := putX_sound h3
    have ea : toVL first ++ args.toList.map (toSt ro m).eval ++ toVL cap = toVL (first ++ args.toList.map (evalX ro m) ++ cap) := by rw [toVL_append, toVL_append, evalX_VL]
    refine opok_quiet (fr := some (0, Q.e)) (tk := some (o.dst.getD 0, Q.e)) (qv_callO (first := toVL first) (cap := toVL cap) ho (by rw [← evalX_V, hfo]; simp only [toV]) hgo (by rw [ea]; exact noLocSL_V _ (noLocSL_of_locs _ a1)) (by rw [ea]; exact hF)) (fun t e he => by cases he; rw [a2']) hd ?_
    have := hK m' p2
    rw [← p1, toSt_clear hro (by omega)] at this
    simpa [toV, St.fresh] using this
  · cases h2
theorem ro_keep {mu : Bool} (hro : ROok mu ro) (hf : ro.fl = true) {tk : Nat} (htk : tcl tk = 0) (rows : List V) {s : Nat} (hw : ro.own s = false) : (∀ e, (ro.sl s).2 ≠ some (tk, e)) ∧ Wk (pv (ro.sl s)) (keepS tk rows (pv (ro.sl s))) := by
  have hfl := hro.flat hf s hw
  have ht := hro.tok s
  revert hfl ht
  generalize ro.sl s = z
  intro hfl ht
  obtain ⟨zs, zt⟩ := z
  cases zt with
  | none =>
    refine ⟨fun e h => (by cases h), ?_⟩
    rcases hfl with hfl | hfl
    · exact absurd rfl hfl
    · have hfz := flatS_V hfl
      have : keepS tk rows (pv (zs, none)) = pv (zs, none) := by simp [pv, keepS, hfz]
      rw [this]; exact .inl rfl
  | some te =>
    obtain ⟨t7, e7⟩ := te
    have h2 := ht t7 e7 rfl
    have hne : t7 ≠ tk := fun e => by subst e; omega
    refine ⟨fun e h => by cases h; exact hne rfl, ?_⟩
    have : keepS tk rows (pv (zs, some (t7, e7))) = pv (zs, some (t7, e7)) := by simp [pv, keepS, hne, h2]
    rw [this]; exact .inl rfl
theorem bxFlat {mu : Bool} (hro : ROok mu ro) (hf : ro.fl = true) (hb : m.bx.all (fun B => match B with | some B => flatB B | none => true) = true) : ∀ j B, (toSt ro m).box j = some B → V.flatL B.cells = true := by
  intro j B hB
  change (getB ro m j).map toBox = some B at hB
  cases hq : getB ro m j with
  | none => rw [hq] at hB; cases hB
  | some B' =>
    rw [hq] at hB
    cases hB
    refine flatB_V ?_
    unfold getB at hq
    cases hw : ro.ownB j with
    | false => rw [hw] at hq; exact hro.boxes hf j B' hw hq
    | true =>
      rw [hw] at hq
      simp only [cond_true] at hq
      cases hq2 : m.bx[j]? with
      | none => rw [hq2] at hq; cases hq
      | some ob =>
        rw [hq2] at hq
        simp only [Option.getD_some] at hq
        subst hq
        exact List.all_eq_true.1 hb _ (List.mem_of_getElem? hq2)
theorem sortX_sound {mu : Bool} (hro : ROok mu ro) {o : Oper} {Q : XSort P} {ss : Nat} {fo : Operand} {ys : List Operand} {args : Array Operand} {tys : Array TypeId} {k : Mm → Option β} (ho : o.op = .call { callee := .value fo, args := args, argTypes := tys }) (ha : args.toList = .tmp ss :: ys)
    (hfo : evalX ro m fo = .fn (.func Q.f) [] []) (hy : match Q.g with | none => ys = [] | some g => ∃ y, ys = [y] ∧ evalX ro m y = .fn (.func g) [] []) (hK : ∀ m', k m' = some r → Kp (toSt ro m')) (h : sortX ro m Q ss o.dst k = some r) : semVC P o (toSt ro m) Kp := by
  intro n' hd _
  unfold sortX at h
  split at h
  · rename_i c l tk e hs
    split at h
    · rename_i hc
      subst hc
      obtain ⟨h1, h2⟩ := condS h
      simp only [Bool.and_eq_true] at h1
      obtain ⟨⟨⟨a1, a2⟩, a4⟩, a5⟩ := h1
      have a1' : tcl tk = 0 := Nat.eq_of_beq_eq_true a1
      have a2' : sizeT P e = some (csz Q.c) := by
        split at a2
        · rename_i z hz; rw [hz, Nat.eq_of_beq_eq_true a2]
        · cases a2
      obtain ⟨x, hx, h3⟩ := bind_some h2
      unfold srtG at hx
      split at hx
      case isFalse => cases hx
      rename_i hlt
      simp only [Option.some.injEq] at hx
      subst hx
      have e1 : (toSt ro m).env ss = .list (l.map (enc Q.c)) := by show toV (getS ro m ss).1 = _; rw [hs]; simp [toV]
      have e2 : (toSt ro m).tok ss = some (tk, e) := by show (getS ro m ss).2 = _; rw [hs]
      have ea : args = (Operand.tmp ss :: ys).toArray := by obtain ⟨l⟩ := args; simpa using ha
      have ef : (toSt ro m).eval fo = .fn (.func Q.f) [] [] := by rw [← evalX_V, hfo]; simp [toV, toVL]
      have eg : match Q.g with | none => ys = [] | some g => ∃ y, ys = [y] ∧ (toSt ro m).eval y = .fn (.func g) [] [] := by
        split at hy
        · exact hy
        · obtain ⟨y, h1, h2⟩ := hy
          exact ⟨y, h1, by rw [← evalX_V, h2]; simp [toV, toVL]⟩
      have main := opok_sort (P := P) (n' := n') (K := fun st' => st' = ((toSt ro m).changed tk ((Q.srt l).map (enc Q.c))).put o.dst (.tup []) none) ho ea ef eg Q.go e1 e2 a1' a2' (rowsOK_lst Q.c l) (bxFlat hro a4 a5) Q.sound hlt hd rfl
      refine opok_weak main fun st' hst' => ?_
      subst hst'
      obtain ⟨m', q1, q2⟩ := putX_sound h3
      have hp := hK m' q2
      rw [← q1] at hp
      have htup : toV (S.tup []) = .tup [] := by simp [toV, toVL]
      rw [htup] at hp
      have hwk : ∀ s, Wk ((toSt ro ⟨m.sl.mapV (keepX tk (.lst Q.c (Q.srt l))), m.bx⟩).sl s) (((toSt ro m).changed tk ((Q.srt l).map (enc Q.c))).sl s) := by
        intro s
        show Wk (pv (getS ro _ s)) (keepS tk _ (pv (getS ro m s)))
        unfold getS
        cases hw : ro.own s with
        | true =>
          simp only [cond_true]
          rw [T.get_mapV]
          cases m.sl.get s with
          | none =>
            simp only [Option.map_none, Option.getD_none]
            exact .inl (by simp [pv, keepS, toV, V.flat])
          | some z =>
            simp only [Option.map_some, Option.getD_some]
            exact keepX_V tk _ z
        | false =>
          simp only [cond_false]
          exact (ro_keep hro a4 a1' ((Q.srt l).map (enc Q.c)) hw).2
      generalize hm2 : (⟨m.sl.mapV (keepX tk (.lst Q.c (Q.srt l))), m.bx⟩ : Mm) = m2 at hp hwk
      have hnb : m2.bx = m.bx := by rw [← hm2]
      refine ⟨((toSt ro m2).put o.dst (.tup []) none).sl, fun s => ?_, ?_⟩
      · cases hdst : o.dst with
        | none => exact hwk s
        | some d =>
          show Wk (if s = d then _ else _) (if s = d then _ else _)
          by_cases hsd : s = d
          · rw [if_pos hsd, if_pos hsd]; exact .inl rfl
          · rw [if_neg hsd, if_neg hsd]; exact hwk s
      · refine (congrArg Kp ?_).mp hp
        have hb : (toSt ro m2).box = (toSt ro m).box := by
          funext i
          show (getB ro m2 i).map toBox = (getB ro m i).map toBox
          unfold getB
          rw [hnb]
        have hn : (toSt ro m2).nb = (toSt ro m).nb := by show m2.bx.length = m.bx.length; rw [hnb]
        cases hdst : o.dst with
        | none =>
          show toSt ro m2 = ⟨(toSt ro m).nb, (toSt ro m2).sl, (toSt ro m).box⟩
          rw [← hb, ← hn]
        | some d =>
          show (toSt ro m2).put (some d) (.tup []) none = ⟨(toSt ro m).nb, ((toSt ro m2).put (some d) (.tup []) none).sl, (toSt ro m).box⟩
          rw [← hb, ← hn]
          rfl
    · cases h
  · cases h
theorem findMut_spec : ∀ {ss : List (XMut P)} {f : FuncId} {Q : XMut P}, findMut ss f = some Q → Q.f = f
  | [], _, _, h => by cases h
  | s :: ss, f, Q, h => by
    simp only [findMut] at h
    cases hb : Nat.beq s.f f with
    | true => rw [hb] at h; cases h; exact Nat.eq_of_beq_eq_true hb
    | false => rw [hb] at h; exact findMut_spec h
theorem dropX_V (tk : Nat) (x : S × Tk) : Wk (pv (dropX tk x)) (dropS tk (pv x)) := by
  obtain ⟨s, t⟩ := x
  have hk := keepX_V tk ([] : List (den .i64)) (s, t)
  unfold dropX dropS
  cases t with
  | none => exact hk
  | some te =>
    obtain ⟨t, e⟩ := te
    simp only [pv] at hk ⊢
    by_cases h : t = tk
    · subst h
      simp only [Nat.beq_refl, cond_true, if_true]
      exact .inl (by simp [toV])
    · have : Nat.beq t tk = false := by
        cases hq : Nat.beq t tk with
        | true => exact absurd (Nat.eq_of_beq_eq_true hq) h
        | false => rfl
      rw [this]
      simp only [cond_false, if_neg h]
      exact hk
theorem toVL_set : ∀ (l : List S) (i : Nat) (x : S), toVL (l.set i x) = (toVL l).set i (toV x)
  | [], i, x => by simp [toVL]
  | y :: l, 0, x => by simp [toVL]
  | y :: l, i + 1, x => by simp [toVL, toVL_set l i x]
theorem dropped_weak {mu : Bool} (hro : ROok mu ro) (a4 : ro.fl = true) {tk : Nat} (a1' : tcl tk = 0) : ∀ s, Wk ((toSt ro ⟨m.sl.mapV (dropX tk), m.bx⟩).sl s) (((toSt ro m).dropped tk).sl s) := by
  intro s
  show Wk (pv (getS ro _ s)) (dropS tk (pv (getS ro m s)))
  unfold getS
  cases hw : ro.own s with
  | true =>
    simp only [cond_true]
    rw [T.get_mapV]
    cases m.sl.get s with
    | none =>
      simp only [Option.map_none, Option.getD_none]
      exact .inl (by simp [pv, dropS, keepS, toV, V.flat])
    | some z =>
      simp only [Option.map_some, Option.getD_some]
      exact dropX_V tk z
  | false =>
    simp only [cond_false]
    obtain ⟨k1, k2⟩ := ro_keep hro a4 a1' [] hw
    have : dropS tk (pv (ro.sl s)) = keepS tk [] (pv (ro.sl s)) := by
      unfold dropS
      split
      · rename_i t e' he
        rw [if_neg]
        rintro rfl
        exact k1 e' he
      · rfl
    rw [this]
    exact k2
theorem mutX_sound {mu : Bool} (hro : ROok mu ro) {o : Oper} {Q : XMut P} {fo : Operand} {args : Array Operand} {tys : Array TypeId} {cap : List S} {k : Mm → Option β} (ho : o.op = .call { callee := .value fo, args := args, argTypes := tys })
    (hfo : evalX ro m fo = .fn (.func Q.f) [] cap) (hK : ∀ m', k m' = some r → Kp (toSt ro m')) (h : mutX ro m Q args.toList cap o.dst k = some r) : semVC P o (toSt ro m) Kp := by
  intro n' hd _
  unfold mutX at h
  split at h
  case h_2 => cases h
  rename_i ss hp
  split at h
  case h_2 => cases h
  rename_i c l tk e hs
  obtain ⟨h1, h2⟩ := condS h
  simp only [Bool.and_eq_true] at h1
  obtain ⟨⟨⟨⟨⟨⟨a1, a2⟩, a3⟩, a4⟩, a5⟩, a6⟩, a7⟩ := h1
  have a1' : tcl tk = 0 := Nat.eq_of_beq_eq_true a1
  have a2' : e = Q.e := Nat.eq_of_beq_eq_true a2
  have a3' : tcl (o.dst.getD 0) = 0 := Nat.eq_of_beq_eq_true a3
  subst a2'
  split at h2
  case h_2 => cases h2
  rename_i ins hins
  split at h2
  case h_2 => cases h2
  rename_i q hq
  subst h2
  obtain ⟨lr, outs, hk, hgo, hF, hno, hlen⟩ := Q.sound _ _ _ _ hq
  obtain ⟨b1, b2⟩ := boxesX_sound hins
  generalize hA : mutArgs ro m tk args.toList Q.p (.lst c l) cap = A at hins hq hk hF b1 b2
  obtain ⟨d1, _, d3, _⟩ := dedup_spec (locsSL A) [] (by simp)
  obtain ⟨l1, l2⟩ := boxesOK_spec b1
  have hlen' : (dedup (locsSL A) []).length = outs.length := by rw [l1, hlen]; simp
  obtain ⟨m', p1, p2⟩ := putX_sound hk
  have hKm := hK m' p2
  have hwk : ∀ s, Wk ((toSt ro ⟨m.sl.mapV (dropX tk), m.bx⟩).sl s) (((toSt ro m).dropped tk).sl s) := by
    intro s
    show Wk (pv (getS ro _ s)) (dropS tk (pv (getS ro m s)))
    unfold getS
    cases hw : ro.own s with
    | true =>
      simp only [cond_true]
      rw [T.get_mapV]
      cases m.sl.get s with
      | none =>
        simp only [Option.map_none, Option.getD_none]
        exact .inl (by simp [pv, dropS, keepS, toV, V.flat])
      | some z =>
        simp only [Option.map_some, Option.getD_some]
        exact dropX_V tk z
    | false =>
      simp only [cond_false]
      obtain ⟨k1, k2⟩ := ro_keep hro a4 a1' [] hw
      have : dropS tk (pv (ro.sl s)) = keepS tk [] (pv (ro.sl s)) := by
        unfold dropS
        split
        · rename_i t e' he
          rw [if_neg]
          rintro rfl
          exact k1 e' he
        · rfl
      rw [this]
      exact k2
  have hst1 : toSt ro ⟨m.sl.mapV (dropX tk), m.bx⟩ = ⟨(toSt ro m).nb, (toSt ro ⟨m.sl.mapV (dropX tk), m.bx⟩).sl, (toSt ro m).box⟩ := rfl
  refine opok_callM (st := toSt ro m) (tk := tk) (ss := ss) (rows := l.map (enc c)) (cap := toVL cap) (st1 := toSt ro ⟨m.sl.mapV (dropX tk), m.bx⟩) (π := dedup (locsSL A) []) (args' := toVL (renSL (indexN (dedup (locsSL A) [])) A)) (ins := ins.map toBox) (outs := outs.map toBox) (tn := o.dst.getD 0)
    ho (by rw [← evalX_V, hfo]; simp [toV, toVL]) hd hgo hp (by show toV (getS ro m ss).1 = _; rw [hs]; simp only [toV]) (by show (getS ro m ss).2 = _; rw [hs]) a1' (bxFlat hro a4 a5) a3' (fun h => by rw [hst1]; exact SRel.weak h hwk) ?_ (fun _ => rfl) d1 (toSt_box_len a7) ?_ b1 (by simp [hlen]) ?_ ?_ (flatSL_V a6) hF ?_
  · intro s t e' hq
    rcases hwk s with w1 | w1 | w1
    · show (((toSt ro m).dropped tk).sl s).2 = _
      rw [← w1]; exact hq
    · have : ((toSt ro ⟨m.sl.mapV (dropX tk), m.bx⟩).sl s).2 = some (t, e') := hq
      rw [w1] at this; cases this
    · have : ((toSt ro ⟨m.sl.mapV (dropX tk), m.bx⟩).sl s).2 = some (t, e') := hq
      rw [w1] at this; cases this
  · rw [ren_toVL]
    · rw [← hA]
      unfold mutArgs
      rw [toVL_append]
      congr 1
      rw [toVL_set, evalX_VL]
      simp only [toV]
    · intro i hi
      have := indexN_get _ i (d3 i hi)
      simp [List.getD, this]
  · intro B hB
    obtain ⟨B', hB', rfl⟩ := List.mem_map.1 hB
    exact noLocB_V (hno B' hB')
  · simp only [V.noLoc]; exact noLocL_map' (enc_noLoc Q.c) lr
  · rw [← p1] at hKm
    have e1 := toSt_clear (ro := ro) (m := ⟨m.sl.mapV (dropX tk), setBs m.bx (dedup (locsSL A) []) outs⟩) hro (t := o.dst.getD 0) (by omega)
    rw [e1, setBs_sound hlen' b2] at hKm
    simpa [toV] using hKm
theorem cutX_sound {mu : Bool} (hro : ROok mu ro) {o : Oper} {t : TypeId} {ss : Nat} {y : Operand} {k : Mm → Option β} (ho : o.op = .slice t (.tmp ss) none (some y) none) (hK : ∀ m', k m' = some r → Kp (toSt ro m')) (h : cutX (P := P) ro m t ss (evalX ro m y) o.dst k = some r) :
    semVC P o (toSt ro m) Kp := by
  intro n' hd _
  unfold cutX at h
  split at h
  case h_2 => cases h
  rename_i c l tk e ky i hs hy
  split at h
  case h_2 => cases h
  rename_i e' sz he
  obtain ⟨h1, h2⟩ := condS h
  simp only [Bool.and_eq_true] at h1
  obtain ⟨⟨⟨⟨⟨a1, a2⟩, a3⟩, a4⟩, a5⟩, a6⟩ := h1
  have a1' := Nat.eq_of_beq_eq_true a1
  have a2' : tcl tk = 0 := Nat.eq_of_beq_eq_true a2
  have a4' : tcl (o.dst.getD 0) = 0 := Nat.eq_of_beq_eq_true a4
  subst a1'
  obtain ⟨e1, e2, rfl⟩ := elemC_spec he
  obtain ⟨q, hq, h3⟩ := bind_some h2
  obtain ⟨⟨_, q1, q2⟩, rfl⟩ := slc_spec hq
  obtain ⟨m', p1, p2⟩ := putX_sound h3
  have hKm := hK m' p2
  have hwk := dropped_weak (m := m) hro a5 a2'
  have hst1 : toSt ro ⟨m.sl.mapV (dropX tk), m.bx⟩ = ⟨(toSt ro m).nb, (toSt ro ⟨m.sl.mapV (dropX tk), m.bx⟩).sl, (toSt ro m).box⟩ := rfl
  refine opok_cut (st := toSt ro m) (tk := tk) (ss := ss) (rows := l.map (enc c)) (st1 := toSt ro ⟨m.sl.mapV (dropX tk), m.bx⟩) (tn := o.dst.getD 0) (k := ky) (i := i) ho (by show toV (getS ro m ss).1 = _; rw [hs]; simp only [toV]) (by show (getS ro m ss).2 = _; rw [hs]) a2'
    (by rw [← evalX_V, hy]; simp only [toV]) (sliceT_spec e1) e2 (rowsOK_lst c l) (codeFlat_lst a3 l) q1 (by rw [List.length_map]; exact q2) (bxFlat hro a5 a6) a4' (fun h => by rw [hst1]; exact SRel.weak h hwk) ?_ (fun _ => rfl) hd ?_
  · intro s t' e' hq'
    rcases hwk s with w1 | w1 | w1
    · show (((toSt ro m).dropped tk).sl s).2 = _
      rw [← w1]; exact hq'
    · have : ((toSt ro ⟨m.sl.mapV (dropX tk), m.bx⟩).sl s).2 = some (t', e') := hq'
      rw [w1] at this; cases this
    · have : ((toSt ro ⟨m.sl.mapV (dropX tk), m.bx⟩).sl s).2 = some (t', e') := hq'
      rw [w1] at this; cases this
  · rw [← p1] at hKm
    have e3 := toSt_clear (ro := ro) (m := ⟨m.sl.mapV (dropX tk), m.bx⟩) hro (t := o.dst.getD 0) (by omega)
    rw [e3] at hKm
    have h0 : (0 : Int).toNat = 0 := rfl
    simpa [toV, List.map_take, h0] using hKm
theorem markX_sound {mu : Bool} (hro : ROok mu ro) {o : Oper} {s t : TypeId} {ss : Nat} {k : Mm → Option β} (ho : o.op = .convert s t (.tmp ss)) (hK : ∀ m', k m' = some r → Kp (toSt ro m')) (h : markX (P := P) ro m s t ss o.dst k = some (some r)) :
    semVC P o (toSt ro m) Kp := by
  intro n' hd _
  unfold markX at h
  split at h
  case h_2 => cases h
  rename_i l0 tk e hs
  have a02 := (condS h).1
  have hh := (condS h).2
  clear h
  simp only [Bool.and_eq_true] at a02
  obtain ⟨a2, a0⟩ := a02
  split at hh
  case h_2 => cases hh
  rename_i x l
  simp only [Option.some.injEq] at hh
  split at hh
  case h_2 => cases hh
  rename_i e' sz he hbt
  obtain ⟨h1, h2⟩ := condS hh
  simp only [Bool.and_eq_true] at h1
  obtain ⟨⟨a1, a5⟩, a6⟩ := h1
  have a0' := Nat.eq_of_beq_eq_true a0
  have a1' := Nat.eq_of_beq_eq_true a1
  have a2' : tcl tk = 0 := Nat.eq_of_beq_eq_true a2
  subst a0'
  subst a1'
  obtain ⟨e1, e2, rfl⟩ := elemC_spec he
  obtain ⟨m', p1, p2⟩ := putX_sound h2
  have hKm := hK m' p2
  have hwk := dropped_weak (m := m) hro a5 a2'
  have hst1 : toSt ro ⟨m.sl.mapV (dropX tk), m.bx⟩ = ⟨(toSt ro m).nb, (toSt ro ⟨m.sl.mapV (dropX tk), m.bx⟩).sl, (toSt ro m).box⟩ := rfl
  refine opok_mark (st := toSt ro m) (tk := tk) (ss := ss) (rows := (x :: l).map (enc .u8)) (st1 := toSt ro ⟨m.sl.mapV (dropX tk), m.bx⟩) ho (by show toV (getS ro m ss).1 = _; rw [hs]; simp only [toV]) (by show (getS ro m ss).2 = _; rw [hs]) a2'
    (sliceT_spec e1) (basicT_int hbt) e2 (rowsOK_lst .u8 (x :: l)) (codeFlat_lst (by rfl) (x :: l)) (by simp) (bxFlat hro a5 a6) (fun h => by rw [hst1]; exact SRel.weak h hwk) ?_ (fun _ => rfl) hd ?_
  · intro s t' e' hq'
    rcases hwk s with w1 | w1 | w1
    · show (((toSt ro m).dropped tk).sl s).2 = _
      rw [← w1]; exact hq'
    · have : ((toSt ro ⟨m.sl.mapV (dropX tk), m.bx⟩).sl s).2 = some (t', e') := hq'
      rw [w1] at this; cases this
    · have : ((toSt ro ⟨m.sl.mapV (dropX tk), m.bx⟩).sl s).2 = some (t', e') := hq'
      rw [w1] at this; cases this
  · rw [← p1] at hKm
    simpa only [toV] using hKm
theorem appOneX_sound {mu : Bool} (hro : ROok mu ro) {o : Oper} {ss : Nat} {x : Operand} {t u : TypeId} {k : Mm → Option β} (ho : o.op = .call { callee := .builtin .append, args := #[.tmp ss, x], argTypes := #[t, u] }) (hK : ∀ m', k m' = some r → Kp (toSt ro m'))
    (h : appOneX (P := P) ro m ss (evalX ro m x) t u o.dst k = some r) : semVC P o (toSt ro m) Kp := by
  intro n' hd _
  unfold appOneX at h
  split at h
  case h_2 => cases h
  rename_i c l tk e e' c' y l2 hg ht hx
  split at h
  case h_2 => cases h
  rename_i sz by' zv hs hb hz
  split at h
  case h_2 => cases h
  rename_i zn hzn
  obtain ⟨h1, h2⟩ := condS h
  simp only [Bool.and_eq_true, Bool.not_eq_true'] at h1
  obtain ⟨⟨⟨⟨⟨⟨a1, a0⟩, a2⟩, a3⟩, a4⟩, a5⟩, a6⟩ := h1
  have a0' := bltS a0
  have a1' := Nat.eq_of_beq_eq_true a1
  have a3' := Nat.eq_of_beq_eq_true a3
  have a4' := Nat.eq_of_beq_eq_true a4
  have a6' : tcl (o.dst.getD 0) = 0 := Nat.eq_of_beq_eq_true a6
  subst a1'
  subst a3'
  split at h2
  case isFalse => cases h2
  rename_i hc
  subst hc
  obtain ⟨q, q1, q2⟩ := bind_some h2
  obtain ⟨q3, rfl⟩ := app_spec q1
  obtain ⟨m', e1, hk⟩ := putX_sound q2
  have hKm := hK m' hk
  have hb0 : by' ≠ 0 := fun e => by subst e; cases a5
  have henv : (toSt ro m).env ss = .list (l.map (enc c')) := by show toV (getS ro m ss).1 = _; rw [hg]; simp [toV]
  have htok : (toSt ro m).tok ss = some (tk, e) := by show (getS ro m ss).2 = _; rw [hg]
  have hlen : ((l.map (enc c')).length + ((y :: l2).map (enc c')).length) * by' ≤ 140737488355328 := by simpa using q3
  have hmax : (l.map (enc c')).length + ((y :: l2).map (enc c')).length ≤ maxLen := by
    have : ((l.map (enc c')).length + ((y :: l2).map (enc c')).length) * 1 ≤ ((l.map (enc c')).length + ((y :: l2).map (enc c')).length) * by' := Nat.mul_le_mul_left _ (Nat.one_le_iff_ne_zero.2 hb0)
    simp only [maxLen]; omega
  refine opok_append_one (st := toSt ro m) (tk := tk) (ss := ss) (rows := l.map (enc c')) (rows2 := (y :: l2).map (enc c')) (tn := o.dst.getD 0) ho henv htok a0' (sliceT_spec ht) a2 hs hb (zeroX_V hz) (cszS_V hzn) (by rw [← a4']; exact rowsOK_lst c' l)
    (fun w pr lam xv hxv => Src.list (by rw [← evalX_V, hx] at hxv; simpa [toV] using hxv) (by rw [← a4']; exact rowsOK_lst c' (y :: l2))) hlen hmax a6' (by simp) hd ?_
  rw [← e1] at hKm
  have e3 := toSt_clear (ro := ro) (m := ⟨m.sl.mapV (clrX tk), m.bx⟩) hro (t := o.dst.getD 0) (by omega)
  have e4 := toSt_clear (ro := ro) (m := m) hro (t := tk) a0'
  rw [e3, e4] at hKm
  simpa [toV] using hKm
theorem clr2X_sound {mu : Bool} (hro : ROok mu ro) {o2 o3 : Oper} {k : Mm → Option β} (hK : ∀ m', k m' = some r → Kp (toSt ro m')) (h : clr2X (P := P) ro o2 o3 m k = some r) : clr2VC P o2 o3 (toSt ro m) Kp := by
  unfold clr2X at h
  split at h
  case h_2 => cases h
  rename_i c t ss y g2 g3 hd3 hd2 ho2
  obtain ⟨hcl, h⟩ := condS h
  split at h
  case h_2 => cases h
  rename_i cc l tk e ky i hs hy
  split at h
  case h_2 => cases h
  rename_i e' sz zv he hz
  split at h
  case h_2 => cases h
  rename_i z zn hzu hzc
  obtain ⟨h1, h2⟩ := condS h
  simp only [Bool.and_eq_true] at h1
  obtain ⟨⟨⟨⟨⟨a1, a2⟩, a3⟩, a4⟩, a5⟩, a6⟩ := h1
  have a1' := Nat.eq_of_beq_eq_true a1
  have a2' : tcl tk = 0 := Nat.eq_of_beq_eq_true a2
  have a3' := Nat.eq_of_beq_eq_true a3
  subst a1' a3'
  obtain ⟨e1, e2, e3⟩ := elemC_spec he
  obtain ⟨q, hq, h3⟩ := bind_some h2
  unfold clrI at hq
  split at hq
  case isFalse => cases hq
  rename_i hi
  cases hq
  obtain ⟨m', p1, p2⟩ := putX_sound h3
  have hKm := hK m' p2
  rw [← p1] at hKm
  have hzV := unrefl_enc hzu
  refine ⟨⟨g2, g3⟩, ?_⟩
  have s1 : (toSt ro m).env ss = .list (l.map (enc cc)) := by show toV (getS ro m ss).1 = _; rw [hs]; simp only [toV]
  have s2 : (toSt ro m).tok ss = some (tk, e) := by show (getS ro m ss).2 = _; rw [hs]
  have s3 : (toSt ro m).eval y = .int ky i := by rw [← evalX_V, hy]; simp only [toV]
  simp only [ho2, hd2, hd3, s1, s2, s3, e2, zeroX_V hz]
  refine ⟨hcl, a2', e1, ⟨cszS_V hzc, by rw [hzV]; exact codeFlat_enc a4 z, by rw [e3]; exact rowsOK_lst cc l, codeFlat_lst a4 l, hi.1, by rw [List.length_map]; exact hi.2⟩, bxFlat hro a5 a6, _, fun F a w pr lam hS => ?_, hKm⟩
  have hr : (l.map (enc cc)).take i.toNat ++ List.replicate ((l.map (enc cc)).length - i.toNat) (toV zv) = (l.take i.toNat ++ List.replicate (l.length - i.toNat) z).map (enc cc) := by
    rw [hzV]; simp [List.map_take]
  rw [hr] at hS
  have hst1 : toSt ro ⟨m.sl.mapV (keepX tk (.lst cc (l.take i.toNat ++ List.replicate (l.length - i.toNat) z))), m.bx⟩ = ⟨(toSt ro m).nb, (toSt ro ⟨m.sl.mapV (keepX tk (.lst cc (l.take i.toNat ++ List.replicate (l.length - i.toNat) z))), m.bx⟩).sl, (toSt ro m).box⟩ := rfl
  rw [hst1]
  refine SRel.weak hS fun s => ?_
  show Wk (pv (getS ro _ s)) (keepS tk _ (pv (getS ro m s)))
  unfold getS
  cases hw : ro.own s with
  | true =>
    simp only [cond_true]
    rw [T.get_mapV]
    cases m.sl.get s with
    | none =>
      simp only [Option.map_none, Option.getD_none]
      exact .inl (by simp [pv, keepS, toV, V.flat])
    | some z' =>
      simp only [Option.map_some, Option.getD_some]
      exact keepX_V tk _ z'
  | false =>
    simp only [cond_false]
    exact (ro_keep hro a5 a2' _ hw).2
theorem optB_spec {a b : Option Nat} (h : optB a b = true) : a = b := by
  cases a <;> cases b <;> simp_all [optB]
theorem findSort_spec {f : FuncId} {g : Option FuncId} : ∀ {l : List (XSort P)} {Q : XSort P}, findSort l f g = some Q → Q.f = f ∧ Q.g = g
  | [], Q, h => by cases h
  | s :: l, Q, h => by
    simp only [findSort] at h
    cases hb : (Nat.beq s.f f && optB s.g g) with
    | true =>
      rw [hb] at h
      simp only [cond_true, Option.some.injEq] at h
      subst h
      simp only [Bool.and_eq_true] at hb
      exact ⟨Nat.eq_of_beq_eq_true hb.1, optB_spec hb.2⟩
    | false => rw [hb] at h; exact findSort_spec h
theorem isPtr_spec {x : Operand} {d0 : Nat} (h : isPtr ro m x = some d0) : x = .tmp d0 := by
  unfold isPtr at h
  split at h
  · split at h
    · cases h; rfl
    · cases h
  · cases h
theorem mdel_spec {α β : Type} [d : DecidableEq α] {kin : α → Bool} {l l' : List (α × β)} {k : α} (h : mdel kin l k = some l') : kin k = true ∧ (∀ e ∈ l, kin e.1 = true) ∧ l' = adel l k := by
  unfold mdel at h
  obtain ⟨h1, h2⟩ := condS h
  cases h2
  simp only [Bool.and_eq_true, List.all_eq_true] at h1
  exact ⟨h1.1, h1.2, rfl⟩
theorem mapDelX_sound {o : Oper} {t t2 : TypeId} {mx x : Operand} {args : Array Operand} {tys : Array TypeId} {k : Mm → Option β} (ho : o.op = .call { callee := .builtin .delete, args := args, argTypes := tys }) (ha : args.toList = [mx, x]) (ht : tys.toList = [t, t2])
    (hK : ∀ m', k m' = some r → Kp (toSt ro m')) (h : mapDelX X ro m t (evalX ro m mx) (evalX ro m x) o.dst k = some r) : semVC P o (toSt ro m) Kp := by
  have ea : args = #[mx, x] := by obtain ⟨l⟩ := args; simpa using ha
  have et' : tys = #[t, t2] := by obtain ⟨l⟩ := tys; simpa using ht
  subst ea; subst et'
  unfold mapDelX at h
  split at h
  · rename_i i kt et hm hT hd0
    split at h
    · rename_i mt kc vc l hB
      split at h
      · rename_i ag ks d ag' ks' hck hd hkt
        split at h
        · rename_i kk hk
          obtain ⟨h1, h2⟩ := condS h
          simp only [Bool.and_eq_true] at h1
          obtain ⟨⟨⟨h1, h3⟩, h4⟩, hown⟩ := h1
          have h3 := eq_of_beq h3
          have h4 := ksEq_eq h4
          subst h3; subst h4
          obtain ⟨o', ho', h2⟩ := bind_some h2
          obtain ⟨g1, g2, rfl⟩ := mdel_spec ho'
          have hb : (toSt ro m).box i = some ⟨encM (enc kc) (enc vc) l, 1000000000 + mt⟩ := by show (getB ro m i).map toBox = _; rw [hB]; rfl
          have ek := unrefl_enc hk
          have hdel := mapDel_enc (ev := enc vc) (keyEq_dq hd) l kk
          have em : (toSt ro m).eval mx = .mref i := by rw [← evalX_V, hm]; simp [toV]
          have ex : (toSt ro m).eval x = enc kc kk := by rw [← evalX_V, ek]
          intro n' _ _
          refine opok_delete (B := ⟨encM (enc kc) (enc vc) l, 1000000000 + mt⟩) ho em hb (Nat.le_add_right 1000000000 mt) hT hkt (X.keyed kt h1) (by rw [ex]; exact kinC_ok hck g1) (keysOK_enc _ fun e he => kinC_ok hck (g2 e he)) hd0 ?_
          have := hK _ h2
          rw [toSt_setBox hown (getB_lt hB hown)] at this
          dsimp only
          rw [ex, hdel]
          exact this
        · cases h
      · cases h
    · cases h
  · cases h
theorem mapLenX_sound {o : Oper} {t : TypeId} {mx : Operand} {i : Nat} {args : Array Operand} {tys : Array TypeId} {k : Mm → Option β} (ho : o.op = .call { callee := .builtin .len, args := args, argTypes := tys }) (ha : args.toList = [mx]) (ht : tys.toList = [t]) (hm : evalX ro m mx = .mref i)
    (hK : ∀ m', k m' = some r → Kp (toSt ro m')) (h : mapLenX (P := P) ro m t i o.dst k = some r) : semVC P o (toSt ro m) Kp := by
  have ea : args = #[mx] := by obtain ⟨l⟩ := args; simpa using ha
  have et' : tys = #[t] := by obtain ⟨l⟩ := tys; simpa using ht
  subst ea; subst et'
  unfold mapLenX at h
  split at h
  · rename_i p mt kc vc l hT hB
    obtain ⟨kt, et⟩ := p
    have hb : (toSt ro m).box i = some ⟨encM (enc kc) (enc vc) l, 1000000000 + mt⟩ := by show (getB ro m i).map toBox = _; rw [hB]; rfl
    have em : (toSt ro m).eval mx = .mref i := by rw [← evalX_V, hm]; simp [toV]
    obtain ⟨m'', e', h'⟩ := putX_sound h
    intro n' hd _
    have hq := qv_len_map (P := P) (o := o) ho em hb (Nat.le_add_right 1000000000 mt) hT
    refine opok_quiet hq (tk := none) (fun _ _ h => by cases h) hd ?_
    have := hK _ h'
    rw [← e'] at this
    simpa [toV, encM, St.fresh] using this
  · cases h
theorem semX_sound {mu : Bool} (hro : ROok mu ro) {o : Oper} {k : Mm → Option β} (hK : ∀ m', k m' = some r → Kp (toSt ro m')) (h : semX X ro o m k = some (some r)) : semVC P o (toSt ro m) Kp := by
  unfold semX at h
  split at h
  · rename_i t ss ix ho
    obtain ⟨_, h⟩ := condS h
    simp only [Option.some.injEq] at h
    exact iaddrTX_sound ho hK h
  · rename_i s x fi ho
    split at h
    · rename_i d0 hp
      have := isPtr_spec hp
      subst this
      simp only [Option.some.injEq] at h
      exact faddrTX_sound ho hK h
    · cases h
  · rename_i t x ho
    split at h
    · rename_i d0 hp
      have := isPtr_spec hp
      subst this
      simp only [Option.some.injEq] at h
      exact loadTX_sound ho hK h
    · cases h
  · rename_i t x y ho
    split at h
    · rename_i d0 hp
      have := isPtr_spec hp
      subst this
      simp only [Option.some.injEq] at h
      exact storeTX_sound hro ho hK h
    · cases h
  · rename_i fo args tys ho
    split at h
    · rename_i f first cap hfo
      split at h
      · rename_i Q hQ
        simp only [Option.some.injEq] at h
        obtain rfl := findOwn_spec hQ
        exact ownX_sound hro ho hfo hK h
      · split at h
        · rename_i Q hQ
          simp only [Option.some.injEq] at h
          obtain rfl := findMut_spec hQ
          exact mutX_sound hro ho hfo hK h
        split at h
        · rename_i ss ha _
          split at h
          · rename_i Q hQ
            simp only [Option.some.injEq] at h
            obtain ⟨rfl, hg⟩ := findSort_spec hQ
            exact sortX_sound hro ho ha hfo (by rw [hg]) hK h
          · cases h
        · rename_i ss y ha _
          split at h
          · rename_i g hy
            split at h
            · rename_i Q hQ
              simp only [Option.some.injEq] at h
              obtain ⟨rfl, hg⟩ := findSort_spec hQ
              exact sortX_sound hro ho ha hfo (by rw [hg]; exact ⟨y, rfl, hy⟩) hK h
            · cases h
          · cases h
        · cases h
    · cases h
  · rename_i t ss y ho
    obtain ⟨_, h⟩ := condS h
    simp only [Option.some.injEq] at h
    exact cutX_sound hro ho hK h
  · rename_i args tys ho
    have hh := (condS h).2
    clear h
    split at hh
    · rename_i ss x t u ha ht
      have ea : args = #[.tmp ss, x] := by obtain ⟨l⟩ := args; simpa using ha
      have et : tys = #[t, u] := by obtain ⟨l⟩ := tys; simpa using ht
      subst ea; subst et
      simp only [Option.some.injEq] at hh
      exact appOneX_sound hro ho hK hh
    · cases hh
  · rename_i s t ss ho
    exact markX_sound hro ho hK h
  · rename_i t l c ho
    simp only [Option.some.injEq] at h
    exact makeTX_sound hro ho hK h
  · rename_i op t x u ho
    exact eqnilX_sound ho hK h
  · rename_i args tys ho
    split at h
    · rename_i mx x t t2 ha ht
      simp only [Option.some.injEq] at h
      exact mapDelX_sound (X := X) ho ha ht hK h
    · cases h
  · rename_i args tys ho
    split at h
    · rename_i mx t ha ht
      split at h
      · rename_i i hm
        simp only [Option.some.injEq] at h
        exact mapLenX_sound ho ha ht hm hK h
      · cases h
    · cases h
  · cases h
theorem mkMapX_sound {t : TypeId} {dst : Option Nat} {k : Mm → Option β} (hK : ∀ m', k m' = some r → Kp (toSt ro m')) (h : mkMapX X ro m t dst k = some r) : mkMapVC (toSt ro m) t dst Kp := by
  unfold mkMapX at h
  split at h
  · split at h
    · obtain ⟨h3, h4⟩ := newBoxX_sound hK h
      refine ⟨h3, ?_⟩
      simp only [toV] at h4
      exact h4
    · cases h
  · cases h
theorem cond_spec {α β : Type} [d : DecidableEq α] {kin : α → Bool} {l : List (α × β)} {k : α} {o : Option β} (h : mget kin l k = some o) : kin k = true ∧ (∀ e ∈ l, kin e.1 = true) ∧ o = aget l k := by
  unfold mget at h
  obtain ⟨h1, h2⟩ := condS h
  cases h2
  simp only [Bool.and_eq_true, List.all_eq_true] at h1
  exact ⟨h1.1, h1.2, rfl⟩
theorem mput_spec {α β : Type} [d : DecidableEq α] {kin : α → Bool} {l l' : List (α × β)} {k : α} {v : β} (h : mput kin l k v = some l') : kin k = true ∧ (∀ e ∈ l, kin e.1 = true) ∧ l' = aput l k v := by
  unfold mput at h
  obtain ⟨h1, h2⟩ := condS h
  cases h2
  simp only [Bool.and_eq_true, List.all_eq_true] at h1
  exact ⟨h1.1, h1.2, rfl⟩
theorem lookupX_sound {t : TypeId} {mx x : S} {ok : Bool} {K : S → Option β} {K2 : V → Prop} (hK : ∀ s, K s = some r → K2 (toV s)) (h : lookupX X ro m t mx x ok K = some r) : lookupVC P t (toSt ro m).box (toV mx) (toV x) ok K2 := by
  unfold lookupX at h
  split at h
  · rename_i i kt et hT
    split at h
    · rename_i mt kc vc l hB
      split at h
      · rename_i ag ks d ag' ks' zv hck hd hkt hz
        split at h
        · rename_i kk z hk hzv
          obtain ⟨h1, h2⟩ := condS h
          simp only [Bool.and_eq_true] at h1
          obtain ⟨⟨h1, h3⟩, h4⟩ := h1
          have h3 := eq_of_beq h3
          have h4 := ksEq_eq h4
          subst h3; subst h4
          obtain ⟨o, ho, h2⟩ := bind_some h2
          obtain ⟨g1, g2, rfl⟩ := cond_spec ho
          have hb : (toSt ro m).box i = some ⟨encM (enc kc) (enc vc) l, 1000000000 + mt⟩ := by show (getB ro m i).map toBox = _; rw [hB]; rfl
          have ek := unrefl_enc hk
          have ez := unrefl_enc hzv
          have hget := mapGet_enc (ev := enc vc) (keyEq_dq hd) l kk
          simp only [toV, lookupVC, hT, hb, hkt, zeroX_V hz]
          refine ⟨Nat.le_add_right 1000000000 mt, X.keyed kt h1, by rw [ek]; exact kinC_ok hck g1, keysOK_enc _ fun e he => kinC_ok hck (g2 e he), ?_⟩
          have := hK _ h2
          rw [ek, ez, hget]
          cases hq : aget l kk with
          | none =>
            rw [hq] at this
            cases ok with
            | true => simpa [toV, toVL, refl_enc] using this
            | false => simpa [toV, toVL, refl_enc] using this
          | some y =>
            rw [hq] at this
            cases ok with
            | true => simpa [toV, toVL, refl_enc] using this
            | false => simpa [toV, toVL, refl_enc] using this
        · cases h
      · cases h
    · cases h
  · cases h
theorem mapPutX_sound {t : TypeId} {mx x y : S} {dst : Option Nat} {k : Mm → Option β} (hK : ∀ m', k m' = some r → Kp (toSt ro m')) (h : mapPutX X ro m t mx x y dst k = some r) : mapPutVC P t (toSt ro m) (toV mx) (toV x) (toV y) dst Kp := by
  unfold mapPutX at h
  split at h
  · rename_i i kt et hT
    split at h
    · rename_i mt kc vc l hB
      split at h
      · rename_i ag ks d ag' ks' hck hd hkt
        split at h
        · rename_i kk v hk hv
          obtain ⟨h1, h2⟩ := condS h
          simp only [Bool.and_eq_true] at h1
          obtain ⟨⟨⟨h1, h3⟩, h4⟩, hown⟩ := h1
          have h3 := eq_of_beq h3
          have h4 := ksEq_eq h4
          subst h3; subst h4
          obtain ⟨o, ho, h2⟩ := bind_some h2
          obtain ⟨g1, g2, rfl⟩ := mput_spec ho
          have hb : (toSt ro m).box i = some ⟨encM (enc kc) (enc vc) l, 1000000000 + mt⟩ := by show (getB ro m i).map toBox = _; rw [hB]; rfl
          have ek := unrefl_enc hk
          have ev := unrefl_enc hv
          have hput := mapPut_enc (ev := enc vc) (keyEq_dq hd) l kk v
          simp only [toV, mapPutVC, hT, hb, hkt]
          refine ⟨Nat.le_add_right 1000000000 mt, X.keyed kt h1, by rw [ek]; exact kinC_ok hck g1, keysOK_enc _ fun e he => kinC_ok hck (g2 e he), trivial, ?_⟩
          have := hK _ h2
          rw [toSt_setBox hown (getB_lt hB hown)] at this
          rw [ek, ev, hput]
          exact this
        · cases h
      · cases h
    · cases h
  · cases h
theorem opX_sound {mu : Bool} (hro : ROok mu ro) {dr : Bool} {o : Oper} {k : Mm → Option β} (hK : ∀ m', k m' = some r → Kp (toSt ro m')) (h : opX X ro dr o m k = some r) : opVC P dr o (toSt ro m) Kp := by
  unfold opX at h
  split at h
  · rename_i q hq
    subst h
    cases dr with
    | true => cases hq
    | false => exact .inr ⟨rfl, semX_sound (X := X) hro hK hq⟩
  left
  split at h
  · rename_i ho; simp only [opVC0, ho]; rw [← evalX_V]; exact boxX_sound hK h
  · rename_i e ho
    simp only [opVC0, ho]
    split at h
    · rename_i v hv; simp only [zeroX_V hv]; exact boxX_sound hK h
    · cases h
  · rename_i ho; simp only [opVC0, ho]; rw [← evalX_V, ← evalX_V]; exact storeX_sound hK h
  · rename_i args tys ho
    simp only [opVC0, ho]
    split at h
    · rename_i ss x t u ha ht; simp only [ha, ht]; rw [← evalX_V]; exact appendX_sound hro hK h
    · cases h
  · rename_i f args tys ho
    simp only [opVC0, ho]
    rw [← evalX_V]
    split at h
    · rename_i g first cap hf
      simp only [hf, toV, callAVC]
      have := callX_sound (X := X) (first := first) (cap := cap) hK h
      rw [toVL_append, toVL_append, evalX_VL] at this
      exact this
    · cases h
  · rename_i ho; simp only [opVC0, ho]; exact mkMapX_sound (X := X) hK h
  · rename_i ho; simp only [opVC0, ho]; rw [← evalX_V, ← evalX_V, ← evalX_V]; exact mapPutX_sound (X := X) hK h
  · rename_i t mx x ok ho
    simp only [opVC0, ho, valVC]
    rw [← evalX_V, ← evalX_V]
    refine lookupX_sound (X := X) (K2 := fun v => tokOK dr o none ∧ Kp (putV o (toSt ro m) v none)) (fun s hs => ?_) h
    obtain ⟨m', ht, e, hk⟩ := putV'_sound hro hs
    exact ⟨ht, e ▸ hK m' hk⟩
  · rename_i n1 n2 n3 n4 n5 n6 n7 n8
    have hv : valVC P o (toSt ro m) (fun v tk => tokOK dr o tk ∧ Kp (putV o (toSt ro m) v tk)) := valX_sound (K2p := fun v tk => tokOK dr o tk ∧ Kp (putV o (toSt ro m) v tk)) (fun s tk hs => by
      obtain ⟨m', ht, e, hk⟩ := putV'_sound hro hs
      exact ⟨ht, e ▸ hK m' hk⟩) h
    unfold opVC0
    split
    · rename_i ho; exact absurd ho (n1 _ _)
    · rename_i ho; exact absurd ho (n2 _)
    · rename_i ho; exact absurd ho (n3 _ _ _)
    · rename_i ho; exact absurd ho (n4 _ _)
    · rename_i t ho; simp [valX, ho] at h
    · rename_i t m' x y ho; simp [valX, ho] at h
    · rename_i ho; exact absurd ho (n5 _ _ _)
    · exact hv
end
end Go.X
