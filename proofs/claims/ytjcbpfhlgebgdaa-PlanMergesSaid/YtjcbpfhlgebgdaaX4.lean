import Derived.Test.YtjcbpfhlgebgdaaX3
set_option linter.unusedSimpArgs false
set_option linter.unusedVariables false
namespace Go.X
open Go.Eng
open Go.RowKit
variable {β : Type}
section
variable {P : Program} {code : TypeId → Option C} {ro : RO} {m : Mm} {r : β} {K : S → Option β} {Kp : V → Prop} {K2 : S → Tk → Option β} {K2p : V → Tk → Prop}
theorem fieldX_sound {s : TypeId} {i : Nat} {x : S} (hK : ∀ s, K s = some r → Kp (toV s)) (h : fieldX P s i x K = some r) : fieldVC P s i (toV x) Kp := by
  unfold fieldX at h
  unfold fieldVC
  split at h
  · rename_i off t cs hf
    simp only [hf, toV]
    split at h
    · rename_i n ha hs
      simp only [ha, hs]
      have := hK _ h
      simpa only [toV, toVL_seg] using this
    · rename_i ha
      simp only [ha]
      split at h
      · rename_i c hc
        simp only [toVL_get, hc, Option.map_some]
        exact hK _ h
      · cases h
    · cases h
  · cases h
theorem inB_spec {i : Int} {n : Nat} (h : inB i n = true) : 0 ≤ i ∧ i < (n : Int) := by
  simpa [inB] using h
theorem iaddrX_sound {t : TypeId} {x i : S} (hK : ∀ s, K s = some r → Kp (toV s)) (h : iaddrX P code t x i K = some r) : iaddrVC P t (toV x) (toV i) Kp := by
  have hK' : ∀ s v, K s = some r → toV s = v → Kp v := fun s v h e => e ▸ hK s h
  unfold iaddrX at h
  split at h
  · rename_i c l k i
    split at h
    · rename_i en he
      obtain ⟨e, n⟩ := en
      obtain ⟨e1, e2, rfl⟩ := elemC_spec he
      obtain ⟨y, h1, h2⟩ := bind_some h
      obtain ⟨q1, q2, q3⟩ := idx_spec h1
      simp only [toV, iaddrVC, e1, e2]
      refine ⟨rowsOK_lst c l, ⟨q1, by simpa using q2⟩, hK' _ _ h2 ?_⟩
      have hg : (l.map (enc c)).getD i.toNat .any = enc c y := by simp [List.getD, q3]
      rw [hg]
      simp only [toV]
      rw [refl_cells]
    · cases h
  · split at h
    · rename_i len e ha
      split at h
      · rename_i n hs
        split at h
        · have h0 := (condS h).1
          have h9 := (condS h).2
          clear h
          simp only [Bool.and_eq_true] at h0
          have hn := Nat.eq_of_beq_eq_true h0.1
          subst hn
          rcases brS h9 with ⟨h1, h2⟩ | ⟨_, h2⟩
          · simp only [toV, iaddrVC, ha, hs]
            exact ⟨inB_spec h1, hK' _ _ h2 (by simp [toV])⟩
          · cases h2
        · rcases brS h with ⟨h1, h2⟩ | ⟨_, h2⟩
          · simp only [toV, iaddrVC, ha, hs]
            exact ⟨inB_spec h1, hK' _ _ h2 (by simp [toV])⟩
          · cases h2
      · cases h
    · cases h
  · split at h
    · rename_i len e ha
      split at h
      · rename_i n hs
        rcases brS h with ⟨h1, h2⟩ | ⟨_, h2⟩
        · simp only [toV, iaddrVC, ha, hs]
          exact ⟨inB_spec h1, hK' _ _ h2 (by simp [toV])⟩
        · cases h2
      · cases h
    · cases h
  · split at h
    · rename_i len e ha
      split at h
      · rename_i n vs hs hv
        rcases brS h with ⟨h1, h2⟩ | ⟨_, h2⟩
        · simp only [toV, hv, iaddrVC, ha, hs]
          exact ⟨inB_spec h1, hK' _ _ h2 (by simp [toV, hv])⟩
        · cases h2
      · cases h
    · cases h
  · cases h
theorem indexX_sound {t : TypeId} {x i : S} (hK : ∀ s, K s = some r → Kp (toV s)) (h : indexX P code t x i K = some r) : indexVC P t (toV x) (toV i) Kp := by
  have hK' : ∀ s v, K s = some r → toV s = v → Kp v := fun s v h e => e ▸ hK s h
  unfold indexX at h
  split at h
  · rename_i s k i
    split at h
    · rename_i hb
      obtain ⟨y, h1, h2⟩ := bind_some h
      simp only [toV, indexVC, hb]
      unfold idxS at h1
      cases hx : idx s i with
      | none => rw [hx] at h1; cases h1
      | some z =>
        rw [hx] at h1
        cases h1
        obtain ⟨q1, q2, q3⟩ := idx_spec hx
        refine ⟨⟨q1, q2⟩, hK' _ _ h2 ?_⟩
        simp [toV, List.getD, q3]
    · cases h
  · rename_i cs k i
    split at h
    · rename_i len e ha
      split at h
      · rename_i n hs1 hs2
        split at h
        · rename_i c k' hac
          have h0 := (condS h).1
          have h9 := (condS h).2
          clear h
          have hn := Nat.eq_of_beq_eq_true h0
          subst hn
          rcases brS h9 with ⟨h1, h2⟩ | ⟨_, h2⟩
          · simp only [toV, indexVC, ha, hs1, hs2]
            refine ⟨inB_spec h1, ?_⟩
            split at h2
            · rename_i l hl
              obtain ⟨y, h3, h4⟩ := bind_some h2
              obtain ⟨q1, q2, q3⟩ := idx_spec h3
              have hget : (toVL cs)[i.toNat * 1]? = some (enc c y) := by rw [unreflL_V hl, List.getElem?_map, Nat.mul_one, q3]; rfl
              rw [hget]
              simp only
              rw [← refl_enc]
              exact hK _ h4
            · cases h2
          · cases h2
        · rcases brS h with ⟨h1, h2⟩ | ⟨_, h2⟩
          · simp only [toV, indexVC, ha, hs1, hs2]
            refine ⟨inB_spec h1, ?_⟩
            split at h2
            · rename_i c hc
              simp only [toVL_get, hc, Option.map_some]
              exact hK _ h2
            · cases h2
          · cases h2
      · cases h
    · cases h
  · cases h
theorem fillX_V {place : Nat → Option (Nat × Nat)} : ∀ {parts : List (Nat × S)} {cells out : List S}, fillX place cells parts = some out → fillV place (toVL cells) (parts.map fun x => (x.1, toV x.2)) = some (toVL out)
  | [], cells, out, h => by simp only [fillX, Option.some.injEq] at h; subst h; rfl
  | (i, v) :: rest, cells, out, h => by
    simp only [fillX] at h
    simp only [List.map_cons, fillV]
    split at h
    · rename_i off size n hp hc
      obtain ⟨h1, h2⟩ := condS h
      simp only [Bool.and_eq_true] at h1
      have e1 := Nat.eq_of_beq_eq_true h1.1
      have e2 := Nat.le_of_ble_eq_true h1.2
      subst e1
      simp only [hp, cszS_V hc]
      rw [if_neg (by rw [toVL_length]; omega)]
      have := fillX_V h2
      rw [toVL_append, toVL_append, toVL_take, toVL_drop, cellsS_V hc] at this
      exact this
    · cases h
theorem zeroX_V {t : TypeId} {s : S} (h : zeroX P t = some s) : zeroT P t = some (toV s) := by
  unfold zeroX at h
  unfold zeroT
  cases hz : (P.info? t).bind (·.zero) with
  | none => rw [hz] at h; cases h
  | some z => rw [hz] at h; cases h; simp [constXV_V]
theorem buildX_sound {t : TypeId} {parts : List (Nat × Operand)} (hK : ∀ s, K s = some r → Kp (toV s)) (h : buildX P ro m t parts K = some r) : buildVC P t (toSt ro m) parts Kp := by
  unfold buildX at h
  unfold buildVC
  split at h
  · rename_i zv place hz hp
    simp only [zeroX_V hz, hp]
    split at h
    · rename_i n hc
      split at h
      · rename_i out hf
        have := fillX_V hf
        rw [cellsS_V hc] at this
        have e : (parts.map fun x => (x.1, evalX ro m x.2)).map (fun x => (x.1, toV x.2)) = parts.map fun x => (x.1, (toSt ro m).eval x.2) := by
          rw [List.map_map]
          exact List.map_congr_left fun x _ => by simp [evalX_V]
        rw [e] at this
        refine ⟨by rw [cszS_V hc]; rfl, ?_⟩
        rw [this]
        have := hK _ h
        simpa only [toV] using this
      · cases h
    · cases h
  · cases h
theorem rowsSz_V {n : Nat} : ∀ {ss : List S}, rowsSz n ss = true → rowsOK n (toVL ss)
  | [], _ => by intro v hv; simp [toVL] at hv
  | s :: ss, h => by
    simp only [rowsSz, Bool.and_eq_true] at h
    intro v hv
    simp only [toVL, List.mem_cons] at hv
    rcases hv with rfl | hv
    · have h1 := h.1
      split at h1
      · rename_i k hk
        rw [cszS_V hk, Nat.eq_of_beq_eq_true h1]
      · cases h1
    · exact rowsSz_V h.2 v hv
theorem bsliceX_sound {t : TypeId} {len : Nat} {parts : List (Nat × Operand)} {dst : Option Nat} (hK : ∀ s tk, K2 s tk = some r → K2p (toV s) tk) (h : bsliceX P code ro m t len parts dst K2 = some r) :
    bsliceVC P t (toSt ro m) len parts dst K2p := by
  have hK' : ∀ s tk v, K2 s tk = some r → toV s = v → K2p v tk := fun s tk v h e => e ▸ hK s tk h
  have e : toVL (parts.map fun x => evalX ro m x.2) = parts.map fun x => (toSt ro m).eval x.2 := by
    rw [toVL_map, List.map_map]
    exact List.map_congr_left fun x _ => evalX_V ro m x.2
  unfold bsliceX at h
  unfold bsliceVC
  split at h
  · rename_i e' he
    simp only [he]
    split at h
    · rename_i sz zv hs hz
      simp only [hs, zeroX_V hz]
      split at h
      · rename_i zn hzn
        obtain ⟨h1, h2⟩ := condS h
        simp only [Bool.and_eq_true, Bool.not_eq_true'] at h1
        obtain ⟨⟨⟨⟨a1, a2⟩, a3⟩, a4⟩, a5⟩ := h1
        have a1' : sz ≠ 0 := fun e => by subst e; cases a1
        have a2' := Nat.eq_of_beq_eq_true a2
        subst a2'
        refine ⟨⟨a1', cszS_V hzn, Nat.eq_of_beq_eq_true a3, Nat.le_of_ble_eq_true a4, a5⟩, ?_⟩
        split at h2
        · rename_i c hc
          split at h2
          · rename_i l hl
            obtain ⟨h3, h4⟩ := condS h2
            have h3' := Nat.eq_of_beq_eq_true h3
            have hq := unreflL_V hl
            rw [e] at hq
            rw [hq]
            refine ⟨by rw [← h3']; exact rowsOK_lst c l, hK' _ _ _ h4 (by simp [toV])⟩
          · cases h2
        · obtain ⟨h3, h4⟩ := condS h2
          rw [← e]
          exact ⟨rowsSz_V h3, hK' _ _ _ h4 (by simp [toV])⟩
      · cases h
    · cases h
  · cases h
theorem nilX_sound {x : S} (hK : ∀ s, K s = some r → Kp (toV s)) (h : nilX x K = some r) : nilVC (toV x) Kp := by
  have hK' : ∀ s v, K s = some r → toV s = v → Kp v := fun s v h e => e ▸ hK s h
  unfold nilX at h
  split at h
  · simp only [toV, nilVC]; exact hK' _ _ h (by simp [toV])
  · simp only [toV, nilVC]; exact hK' _ _ h (by simp [toV])
  · split at h
    · rename_i vs hv
      simp only [toV, hv, nilVC]; exact hK' _ _ h (by simp [toV, hv])
    · cases h
  · cases h
theorem lenX_sound {t : TypeId} {x : S} (hK : ∀ s, K s = some r → Kp (toV s)) (h : lenX P t x K = some r) : lenVC P t (toV x) Kp := by
  have hK' : ∀ s v, K s = some r → toV s = v → Kp v := fun s v h e => e ▸ hK s h
  unfold lenX at h
  split at h
  · split at h
    · rename_i e he
      simp only [toV, lenVC, he]; exact hK' _ _ h (by simp [toV])
    · cases h
  · split at h
    · rename_i e he
      simp only [toV, lenVC, he]; exact hK' _ _ h (by simp [toV, toVL_length])
    · cases h
  · split at h
    · rename_i he
      simp only [toV, lenVC, he]; exact hK' _ _ h (by simp [toV])
    · cases h
  · cases h
theorem builtinX_sound {b : Builtin} {args : List S} {tys : List TypeId} (hK : ∀ s, K s = some r → Kp (toV s)) (h : builtinX P b args tys K = some r) : builtinVC P b (toVL args) tys Kp := by
  have hK' : ∀ s v, K s = some r → toV s = v → Kp v := fun s v h e => e ▸ hK s h
  unfold builtinX at h
  split at h
  · simp only [toVL, builtinVC]; exact lenX_sound hK h
  · obtain ⟨h1, h2⟩ := iteS h
    simp only [toVL, toV, builtinVC]; exact ⟨h1, hK' _ _ h2 (by simp [toV])⟩
  · obtain ⟨h1, h2⟩ := iteS h
    simp only [toVL, toV, builtinVC]; exact ⟨h1, hK' _ _ h2 (by simp [toV])⟩
  · cases h
theorem assignX_sound {o : Oper} {x : Operand} (hK : ∀ s tk, K2 s tk = some r → K2p (toV s) tk) (h : assignX P code ro m o x K2 = some r) : assignVC P o (toSt ro m) x K2p := by
  have hK' : ∀ s tk v, K2 s tk = some r → toV s = v → K2p v tk := fun s tk v h e => e ▸ hK s tk h
  unfold assignX at h
  unfold assignVC
  split at h
  · split at h
    · rename_i e he
      simp only [he]
      split at h
      · exact hK' _ _ _ h (by simp [toV])
      · exact hK' _ _ _ h (by simp [toV, toVL])
    · rename_i he
      simp only [he]
      exact hK' _ _ _ h (by simp [toV, toVL])
  · rename_i hne
    split
    · exact absurd rfl hne
    · have := hK _ _ h
      rwa [evalX_V, tokX_V] at this
theorem pickX_sound {c a b : S} (hK : ∀ s, K s = some r → Kp (toV s)) (h : pickX c a b K = some r) : ∃ t, toV c = .bool t ∧ Kp (pickV t (toV a) (toV b)) := by
  have hK' : ∀ s v, K s = some r → toV s = v → Kp v := fun s v h e => e ▸ hK s h
  unfold pickX at h
  split at h
  · rename_i t
    refine ⟨t, by simp [toV], ?_⟩
    rw [pickV_eq]
    split at h
    · exact hK' _ _ h (by cases t <;> simp [toV])
    · obtain ⟨h1, h2⟩ := iteS h
      subst h1
      exact hK' _ _ h2 (by cases t <;> simp [toV])
    · exact hK' _ _ h (by cases t <;> simp [toV])
    · rcases brS h with ⟨h1, h2⟩ | ⟨h1, h2⟩
      · subst h1; exact hK _ h2
      · subst h1; exact hK _ h2
  · cases h
theorem valX_sound {o : Oper} (hK : ∀ s tk, K2 s tk = some r → K2p (toV s) tk) (h : valX P code ro m o K2 = some r) : valVC P o (toSt ro m) K2p := by
  have hK1 : ∀ s, K2 s none = some r → K2p (toV s) none := fun s => hK s none
  unfold valX at h
  split at h
  · rename_i x ho
    have := hK _ _ h
    rw [evalX_V, tokX_V] at this
    simp only [valVC, ho]; exact this
  · rename_i ho; simp only [valVC, ho]; exact assignX_sound hK h
  · rename_i c x y ho
    obtain ⟨t, h1, h2⟩ := pickX_sound (Kp := (K2p · none)) hK1 h
    simp only [valVC, ho]
    rw [← evalX_V, ← evalX_V, ← evalX_V, h1]
    exact h2
  · rename_i ho; simp only [valVC, ho]; rw [← evalX_V]; exact loadX_sound (Kp := (K2p · none)) hK1 h
  · rename_i ho; simp only [valVC, ho]; rw [← evalX_V, ← evalX_V]; exact binX_sound (Kp := (K2p · none)) hK1 h
  · rename_i ho; simp only [valVC, ho]; rw [← evalX_V]; exact unX_sound (Kp := (K2p · none)) hK1 h
  · rename_i ho; simp only [valVC, ho]; rw [← evalX_V]; exact convX_sound (Kp := (K2p · none)) hK1 h
  · rename_i t x ho
    obtain ⟨h1, h2⟩ := condS h
    have := hK1 _ h2
    simp only [toV] at this
    simp only [valVC, ho]; rw [← evalX_V]; exact ⟨h1, this⟩
  · rename_i f first cap ho
    have := hK1 _ h
    simp only [toV, evalX_VL] at this
    simp only [valVC, ho]; exact this
  · rename_i ho; simp only [valVC, ho]; rw [← evalX_V]; exact gsliceX_sound hK h
  · rename_i ho; simp only [valVC, ho]; rw [← evalX_V]; exact faddrX_sound (Kp := (K2p · none)) hK1 h
  · rename_i ho; simp only [valVC, ho]; rw [← evalX_V]; exact fieldX_sound (Kp := (K2p · none)) hK1 h
  · rename_i ho; simp only [valVC, ho]; rw [← evalX_V, ← evalX_V]; exact iaddrX_sound (Kp := (K2p · none)) hK1 h
  · rename_i ho; simp only [valVC, ho]; rw [← evalX_V, ← evalX_V]; exact indexX_sound (Kp := (K2p · none)) hK1 h
  · rename_i x i ho
    simp only [valVC, ho]; rw [← evalX_V]
    split at h
    · rename_i vs hx
      rw [hx]
      split at h
      · rename_i v hv
        simp only [toV, toVL_get, hv, Option.map_some]
        exact hK1 _ h
      · cases h
    · cases h
  · rename_i ho; simp only [valVC, ho]; exact buildX_sound (Kp := (K2p · none)) hK1 h
  · rename_i ho; simp only [valVC, ho]; exact bsliceX_sound hK h
  · rename_i ho; simp only [valVC, ho]; rw [← evalX_V]; exact nilX_sound (Kp := (K2p · none)) hK1 h
  · rename_i b args tys ho
    simp only [valVC, ho]; rw [← evalX_VL]; exact builtinX_sound (Kp := (K2p · none)) hK1 h
  · cases h
end
end Go.X
