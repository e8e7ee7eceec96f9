import Derived.Test.YtjcbpfhlgebgdaaX5
set_option linter.unusedSimpArgs false
set_option linter.unusedVariables false
namespace Go.X
open Go.Eng
open Go.RowKit
variable {β : Type}
section
variable {P : Program} {X : XCtx P} {ro : RO} {r : β} {Kp : St → Prop}
theorem refine_eq {m : Mm} {t : Nat} {b : Bool} (h : (getS ro m t).1 = .bool b) : toSt ro (refineX ro m (.tmp t) b) = toSt ro m := by
  unfold refineX
  simp only
  cases ho : ro.own t with
  | false => rfl
  | true =>
    simp only [cond_true]
    rw [toSt_put ho]
    show (⟨_, upd _ t _, _⟩ : St) = toSt ro m
    have : upd (toSt ro m).sl t (toV (S.bool b), (getS ro m t).2) = (toSt ro m).sl := by
      funext s
      unfold upd
      split
      · rename_i e; subst e; rw [← h]; rfl
      · rfl
    rw [this]
theorem refine_eqX {m : Mm} {x : Operand} {b : Bool} (h : evalX ro m x = .bool b) : toSt ro (refineX ro m x b) = toSt ro m := by
  cases x with
  | tmp t => exact refine_eq h
  | const v => rfl
  | global g => rfl
  | func f => rfl
theorem entX_sound {m : Mm} {dr : Bool} {o : Oper} {os : List Oper} {q : EntQ} {k : Mm → Option β} (hK : ∀ m', k m' = some r → Kp (toSt ro m')) (hq : entPat dr o os = some q) (h : entX X ro m q k = some r) :
    dr = true ∧ ∃ o3 o4 o5 o6, os = [o3, o4, o5, o6] ∧ entVC P o o3 o4 o5 o6 (toSt ro m) Kp := by
  unfold entPat at hq
  split at hq
  case h_2 => cases hq
  rename_i t s r' h2
  split at hq
  case h_2 => cases hq
  rename_i o3 o4 o5 o6
  split at hq
  case h_2 => cases hq
  rename_i t1 s1 r1 h4
  split at hq
  case h_2 => cases hq
  rename_i op xT a2 c yT h3
  split at hq
  case h_2 => cases hq
  rename_i a4 ix h5
  split at hq
  case h_2 => cases hq
  rename_i t2 s2 a5 a3 h6
  split at hq
  case h_2 => cases hq
  rename_i d2 d3 d4 d5 e2 e3 e4 e5 e6
  obtain ⟨hc, hq⟩ := condS hq
  cases hq
  simp only [Bool.and_eq_true, Bool.not_eq_true', noGuard] at hc
  obtain ⟨⟨⟨⟨⟨c0, ⟨⟨⟨⟨u2, u3⟩, u4⟩, u5⟩, u6⟩⟩, ⟨⟨⟨⟨⟨⟨⟨⟨⟨b1, b2⟩, b3⟩, b4⟩, b5⟩, b6⟩, b7⟩, b8⟩, b9⟩, b10⟩⟩, ⟨⟨⟨⟨⟨k1, k2⟩, k3⟩, k4⟩, k5⟩, k6⟩⟩, ⟨⟨⟨l1, l2⟩, l3⟩, l4⟩⟩, ⟨⟨⟨n1, n2⟩, n3⟩, n4⟩⟩ := hc
  have gd : ∀ {o : Oper}, (match o.guard with | none => true | some _ => false) = true → o.guard = none := fun {o} h => by
    cases hg : o.guard with
    | none => rfl
    | some g => rw [hg] at h; cases h
  have b1 := Nat.eq_of_beq_eq_true b1
  have b2 := Nat.eq_of_beq_eq_true b2
  have b3 := Nat.eq_of_beq_eq_true b3
  have b4 := Nat.eq_of_beq_eq_true b4
  have b5 := Nat.eq_of_beq_eq_true b5
  have b6 := Nat.eq_of_beq_eq_true b6
  have b7 := Nat.eq_of_beq_eq_true b7
  have b8 := Nat.eq_of_beq_eq_true b8
  have b9 := Nat.eq_of_beq_eq_true b9
  have b10 := Nat.eq_of_beq_eq_true b10
  subst b1; subst b2; subst b3; subst b4; subst b5; subst b6; subst b7; subst b8; subst b9; subst b10
  have nb : ∀ {a d : Nat}, Nat.beq a d = false → Operand.tmp a ≠ .tmp d := fun {a d} h e => by cases e; simp at h
  have nd : ∀ {a d : Nat}, Nat.beq a d = false → a ≠ d := fun {a d} h e => by cases e; simp at h
  refine ⟨c0, o3, o4, o5, o6, rfl, ?_⟩
  unfold entX at h
  split at h
  case h_2 => cases h
  rename_i i kt et hm hT
  split at h
  case h_2 => cases h
  rename_i mt kc l hB
  split at h
  case h_2 => cases h
  rename_i ag ks d ag' ks' zv hck hd hkt hz
  split at h
  case h_2 => cases h
  rename_i kk z hk hzv
  obtain ⟨h1, hh⟩ := condS h
  clear h
  simp only [Bool.and_eq_true] at h1
  obtain ⟨⟨⟨h1, q3⟩, q4⟩, hown⟩ := h1
  have q3 := eq_of_beq q3
  have q4 := ksEq_eq q4
  subst q3; subst q4
  obtain ⟨oo, ho, h⟩ := bind_some hh
  clear hh
  obtain ⟨g1, g2, rfl⟩ := cond_spec ho
  obtain ⟨y, hy, h⟩ := bind_some h
  obtain ⟨l', hl', h⟩ := bind_some h
  obtain ⟨_, _, rfl⟩ := mput_spec hl'
  obtain ⟨m1, f1, h⟩ := putX_sound h
  obtain ⟨m2, f2, h⟩ := putX_sound h
  obtain ⟨m3, f3, h⟩ := putX_sound h
  obtain ⟨m4, f4, h⟩ := putX_sound h
  have hfin := hK _ h
  have hb : (toSt ro m).box i = some ⟨encM (enc kc) (enc .i64) l, 1000000000 + mt⟩ := by show (getB ro m i).map toBox = _; rw [hB]; rfl
  have ek : (toSt ro m).eval (.tmp r1) = enc kc kk := by rw [← evalX_V]; exact unrefl_enc hk
  have em : (toSt ro m).eval (.tmp s2) = .mref i := by rw [← evalX_V, hm]; simp [toV]
  have ez : toV zv = enc .i64 z := unrefl_enc hzv
  have hget := mapGet_enc (ev := enc .i64) (keyEq_dq hd) l kk
  have hput : mapPut (encM (enc kc) (enc .i64) l) (enc kc kk) (V.int .i64 y) = encM (enc kc) (enc .i64) (aput l kk y) := mapPut_enc (ev := enc .i64) (keyEq_dq hd) l kk y
  refine ⟨t2, kt, et, xT, yT, op, .tmp s2, .tmp r1, _, _, _, _, ag, ks, i, ⟨encM (enc kc) (enc .i64) l, 1000000000 + mt⟩, .i64, (aget l kk).getD z, c, y, toV zv, ⟨⟨h2, e2, gd u2⟩, ⟨h3, e3, gd u3⟩, ⟨h4, e4, gd u4⟩, ⟨h5, e5, gd u5⟩, ⟨h6, e6, gd u6⟩⟩, ⟨nd k1, nd k2, nd k3, nd k4, nd k5, nd k6⟩, ⟨nb l1, nb l2, nb l3, nb l4⟩, ⟨nb n1, nb n2, nb n3, nb n4⟩,
    ⟨?_, em, hb, Nat.le_add_right 1000000000 mt, hT, zeroX_V hz, ?_, hkt, X.keyed kt h1, by rw [ek]; exact kinC_ok hck g1, keysOK_enc _ fun e he => kinC_ok hck (g2 e he)⟩, ?_⟩
  · cases op
    case add =>
      change addI .i64 ((aget l kk).getD z) c = some y at hy
      unfold addI at hy
      split at hy
      · rename_i hin; cases hy; exact congrArg (fun z => some (V.int .i64 z)) hin
      · cases hy
    case sub =>
      change subI .i64 ((aget l kk).getD z) c = some y at hy
      unfold subI at hy
      split at hy
      · rename_i hin; cases hy; exact congrArg (fun z => some (V.int .i64 z)) hin
      · cases hy
    all_goals (change (none : Option Int) = some y at hy; cases hy)
  · dsimp only
    rw [ek, hget, ez]
    cases aget l kk <;> rfl
  · dsimp only
    rw [ek, hput]
    rw [← f4, ← f3, ← f2, ← f1, toSt_setBox hown (getB_lt hB hown)] at hfin
    simpa [toV, toBox] using hfin
theorem opsX_sound {mu : Bool} (hro : ROok mu ro) {dr : Bool} {ds : List (Option Nat)} {k : Mm → Option β} (hK : ∀ m', k m' = some r → Kp (toSt ro m')) : ∀ (os : List Oper) (m : Mm), opsX X ro dr ds os m k = some r → opsVC P dr ds os (toSt ro m) Kp
  | [], m, h => hK m h
  | o :: os, m, h => by
    simp only [opsX] at h
    simp only [opsVC]
    split at h
    · rename_i q hq
      exact .inr (entX_sound hK hq h)
    left
    have hA : ∀ m', toSt ro m' = toSt ro m → opX X ro dr o m' (fun m' => opsX X ro dr ds os m' k) = some r → opVC P dr o (toSt ro m) fun st' => opsVC P dr ds os st' Kp := by
      intro m' e h
      rw [← e]
      exact opX_sound hro (fun m'' h' => opsX_sound hro hK os m'' h') h
    have hB : ∀ m', toSt ro m' = toSt ro m → putX ro m' o.dst .un none (fun m' => opsX X ro dr ds os m' k) = some r → opsVC P dr ds os ((toSt ro m).put o.dst .un none) Kp := by
      intro m' e h
      obtain ⟨m'', e', h'⟩ := putX_sound h
      rw [← e]
      have : toV S.un = .un := by simp [toV]
      rw [this] at e'
      rw [e']
      exact opsX_sound hro hK os m'' h'
    unfold gdX at h
    unfold gdVC
    split at h
    · rename_i hg
      simp only [hg]
      exact hA m rfl h
    · rename_i j want hg
      simp only [hg]
      split at h
      · rename_i d hd
        simp only [hd]
        have he : (toSt ro m).env d = toV (getS ro m d).1 := rfl
        rw [he]
        split at h
        · rename_i b hb
          rw [hb]
          simp only [toV]
          refine ⟨fun hw => ?_, fun hw => ?_⟩
          · rcases brS h with ⟨q, h⟩ | ⟨q, h⟩
            · subst q
              have : want = true := by simpa using hw
              subst this
              exact hA _ (refine_eq hb) h
            · subst q
              have : want = false := by simpa using hw
              subst this
              exact hA _ (refine_eq hb) h
          · rcases brS h with ⟨q, h⟩ | ⟨q, h⟩
            · subst q
              have : want = false := by simpa using hw
              subst this
              exact hB _ (refine_eq hb) h
            · subst q
              have : want = true := by simpa using hw
              subst this
              exact hB _ (refine_eq hb) h
        · rename_i hb
          rw [hb]
          simp only [toV]
          exact hB m rfl h
        · cases h
      · rename_i hne
        split
        · rename_i d hd; exact absurd hd (hne d)
        · exact hB m rfl h
theorem tailX_sound {mu : Bool} (hro : ROok mu ro) {k : Mm → Option β} (hK : ∀ m', k m' = some r → Kp (toSt ro m')) : ∀ (l : List Oper) (m : Mm), tailX X ro l m k = some r → tailVC P l (toSt ro m) Kp
  | [], m, h => by cases h
  | [o], m, h => by cases h
  | [o2, o3], m, h => clr2X_sound hro hK h
  | o :: o1 :: o2 :: os, m, h => by
    unfold tailX at h
    simp only at h
    unfold tailVC
    simp only
    split at h
    · rename_i hg
      exact ⟨hg, opX_sound hro (fun m' h' => tailX_sound hro hK (o1 :: o2 :: os) m' h') h⟩
    · cases h
theorem takeX_sound {o : Oper} {m : Mm} {k : Mm → Option β} (hK : ∀ m', k m' = some r → Kp (toSt ro m')) (h : takeX (P := P) ro o m k = some r) : takeVC P o (toSt ro m) Kp := by
  unfold takeX at h
  unfold takeVC
  split at h
  · rename_i x ho
    simp only [ho]
    obtain ⟨m1, f1, h⟩ := putX_sound h
    have := hK _ h
    rw [← f1, evalX_V, tokX_V] at this
    exact this
  · rename_i xT x y yT ho
    simp only [ho]
    rw [← evalX_V, ← evalX_V]
    split at h
    · rename_i k1 a k2 b h1 h2
      rw [h1, h2]
      simp only [toV]
      split at h
      · rename_i hk
        obtain ⟨n, hn, h⟩ := bind_some h
        unfold addI at hn
        split at hn
        · rename_i hin
          cases hn
          obtain ⟨m1, f1, h⟩ := putX_sound h
          have := hK _ h
          rw [← f1] at this
          exact ⟨hk, hin, by simpa [toV] using this⟩
        · cases hn
      · cases h
    · cases h
  · rename_i xT x y yT ho
    simp only [ho]
    rw [← evalX_V, ← evalX_V]
    split at h
    · rename_i k1 a k2 b h1 h2
      rw [h1, h2]
      simp only [toV]
      split at h
      · rename_i hk
        obtain ⟨n, hn, h⟩ := bind_some h
        unfold subI at hn
        split at hn
        · rename_i hin
          cases hn
          obtain ⟨m1, f1, h⟩ := putX_sound h
          have := hK _ h
          rw [← f1] at this
          exact ⟨hk, hin, by simpa [toV] using this⟩
        · cases hn
      · cases h
    · cases h
  · rename_i t x ix ho
    simp only [ho]
    rw [← evalX_V, ← evalX_V]
    split at h
    · rename_i c l k1 i h1 h2
      rw [h1, h2]
      simp only [toV]
      split at h
      · rename_i en he
        obtain ⟨e, n⟩ := en
        obtain ⟨e1, e2, rfl⟩ := elemC_spec he
        obtain ⟨y, g1, h⟩ := bind_some h
        obtain ⟨q1, q2, q3⟩ := idx_spec g1
        obtain ⟨m1, f1, h⟩ := putX_sound h
        have := hK _ h
        rw [← f1] at this
        simp only [e1, e2]
        refine ⟨rowsOK_lst c l, ⟨q1, by simpa using q2⟩, ?_⟩
        have hg : (l.map (enc c)).getD i.toNat .any = enc c y := by simp [List.getD, q3]
        rw [hg]
        simpa only [toV, refl_cells] using this
      · cases h
    · cases h
  · rename_i t x lo hi ho
    simp only [ho]
    rw [← evalX_V]
    split at h
    · rename_i c l h1
      have hs := sliceX_sound (r := r) (K2p := fun v tk => Kp ((toSt ro m).put o.dst v tk)) (fun s tk hk => by
        obtain ⟨m1, f1, hk⟩ := putX_sound hk
        have := hK _ hk
        rwa [← f1] at this) h
      rw [h1]
      simp only [toV] at hs ⊢
      exact hs
    · cases h
  · cases h
theorem pairX_sound {o o' : Oper} {m : Mm} {k : Mm → Option β} (hK : ∀ m', k m' = some r → Kp (toSt ro m')) (h : pairX X ro o o' m k = some r) : pairVC P o o' (toSt ro m) Kp := by
  unfold pairX at h
  unfold pairVC
  split at h
  · rename_i t x t' x' h1 h2
    simp only [h1, h2]
    rw [← evalX_V, ← evalX_V]
    refine loadX_sound (r := r) (Kp := fun v => loadVC P t' (toSt ro m).box (toV (evalX ro m x')) fun u => Kp (((toSt ro m).put o.dst v none).put o'.dst u none)) (fun s hs => ?_) h
    refine loadX_sound (r := r) (Kp := fun u => Kp (((toSt ro m).put o.dst (toV s) none).put o'.dst u none)) (fun s' hs' => ?_) hs
    obtain ⟨m1, f1, h⟩ := putX_sound hs'
    obtain ⟨m2, f2, h⟩ := putX_sound h
    have := hK _ h
    rwa [← f2, ← f1] at this
  · cases h
theorem schX_sound {mu : Bool} (hro : ROok mu ro) {ops : Array Oper} {k : Mm → Option β} (hK : ∀ m', k m' = some r → Kp (toSt ro m')) : ∀ (l : List (Nat × Nat)) (m : Mm), schX X ro ops (ops.toList.map (·.dst)) l m k = some r → schVC P ops l (toSt ro m) Kp
  | [], m, h => hK m h
  | (i, t) :: l, m, h => by
    simp only [schX] at h
    simp only [schVC]
    split at h
    · cases h
    rename_i o ho
    simp only [ho]
    match t, h with
    | 1, h => exact takeX_sound (fun m' h' => schX_sound hro hK l m' h') h
    | j + 2, h =>
      simp only at h ⊢
      split at h
      · rename_i o' ho'
        simp only [ho']
        exact pairX_sound (fun m' h' => schX_sound hro hK l m' h') h
      · cases h
    | 0, h =>
      simp only at h ⊢
      have hA : ∀ m', toSt ro m' = toSt ro m → opX X ro false o m' (fun m' => schX X ro ops (ops.toList.map (·.dst)) l m' k) = some r → opVC P false o (toSt ro m) fun st' => schVC P ops l st' Kp := by
        intro m' e h
        rw [← e]
        exact opX_sound hro (fun m'' h' => schX_sound hro hK l m'' h') h
      have hB : ∀ m', toSt ro m' = toSt ro m → putX ro m' o.dst .un none (fun m' => schX X ro ops (ops.toList.map (·.dst)) l m' k) = some r → schVC P ops l ((toSt ro m).put o.dst .un none) Kp := by
        intro m' e h
        obtain ⟨m'', e', h'⟩ := putX_sound h
        rw [← e]
        have : toV S.un = .un := by simp [toV]
        rw [this] at e'
        rw [e']
        exact schX_sound hro hK l m'' h'
      unfold gdX at h
      unfold gdVC
      split at h
      · rename_i hg
        simp only [hg]
        exact hA m rfl h
      · rename_i j want hg
        simp only [hg]
        split at h
        · rename_i d hd
          simp only [hd]
          have he : (toSt ro m).env d = toV (getS ro m d).1 := rfl
          rw [he]
          split at h
          · rename_i b hb
            rw [hb]
            simp only [toV]
            refine ⟨fun hw => ?_, fun hw => ?_⟩
            · rcases brS h with ⟨q, h⟩ | ⟨q, h⟩
              · subst q
                have : want = true := by simpa using hw
                subst this
                exact hA _ (refine_eq hb) h
              · subst q
                have : want = false := by simpa using hw
                subst this
                exact hA _ (refine_eq hb) h
            · rcases brS h with ⟨q, h⟩ | ⟨q, h⟩
              · subst q
                have : want = false := by simpa using hw
                subst this
                exact hB _ (refine_eq hb) h
              · subst q
                have : want = true := by simpa using hw
                subst this
                exact hB _ (refine_eq hb) h
          · rename_i hb
            rw [hb]
            simp only [toV]
            exact hB m rfl h
          · cases h
        · rename_i hne
          split
          · rename_i d hd; exact absurd hd (hne d)
          · exact hB m rfl h
theorem allB_spec {γ : Type} {f : Nat → Option γ} {r : γ} : ∀ {l : List Nat}, allB f l = some r → ∀ j ∈ l, f j = some r
  | [], h, j, hj => by simp at hj
  | [i], h, j, hj => by
    simp only [List.mem_singleton] at hj
    subst hj
    exact h
  | i :: i' :: l, h, j, hj => by
    unfold allB at h
    obtain ⟨h1, h2⟩ := both_spec h
    rcases List.mem_cons.1 hj with rfl | hj
    · exact h1
    · exact allB_spec h2 j hj
theorem fullX_sound {mu : Bool} (hro : ROok mu ro) {ops : Array Oper} {k : Mm → Option β} (hK : ∀ m', k m' = some r → Kp (toSt ro m')) : ∀ (fuel : Nat) (listed : Array Bool) (m : Mm), fullX X ro ops (ops.toList.map (·.dst)) fuel listed m k = some r → fullVC P ops fuel listed (toSt ro m) Kp
  | 0, listed, m, h => by
    unfold fullX at h
    unfold fullVC
    split at h
    · rename_i hr; exact ⟨hr, hK _ h⟩
    · cases h
  | fuel + 1, listed, m, h => by
    unfold fullX at h
    unfold fullVC
    split at h
    · rename_i hr; rw [hr]; exact hK _ h
    · rename_i i is hr
      rw [hr]
      dsimp only at h ⊢
      split at h
      · rename_i j hj
        rw [hj]
        dsimp only
        split at h
        · rename_i o ho
          rw [ho]
          exact takeX_sound (fun m' h' => fullX_sound hro hK fuel _ m' h') h
        · cases h
      · rename_i hj
        rw [hj]
        dsimp only
        intro j hjm
        have h := allB_spec h j hjm
        split at h
        case h_2 => cases h
        rename_i o ho
        rw [ho]
        dsimp only
        have hA : ∀ m', toSt ro m' = toSt ro m → opX X ro false o m' (fun m' => fullX X ro ops (ops.toList.map (·.dst)) fuel (listed.setIfInBounds j true) m' k) = some r → opVC P false o (toSt ro m) fun st' => fullVC P ops fuel (listed.setIfInBounds j true) st' Kp := by
          intro m' e h
          rw [← e]
          exact opX_sound hro (fun m'' h' => fullX_sound hro hK fuel _ m'' h') h
        have hB : ∀ m', toSt ro m' = toSt ro m → putX ro m' o.dst .un none (fun m' => fullX X ro ops (ops.toList.map (·.dst)) fuel (listed.setIfInBounds j true) m' k) = some r → fullVC P ops fuel (listed.setIfInBounds j true) ((toSt ro m).put o.dst .un none) Kp := by
          intro m' e h
          obtain ⟨m'', e', h'⟩ := putX_sound h
          rw [← e]
          have : toV S.un = .un := by simp [toV]
          rw [this] at e'
          rw [e']
          exact fullX_sound hro hK fuel _ m'' h'
        unfold gdX at h
        unfold gdVC
        split at h
        · rename_i hg
          simp only [hg]
          exact hA m rfl h
        · rename_i j want hg
          simp only [hg]
          split at h
          · rename_i d hd
            simp only [hd]
            have he : (toSt ro m).env d = toV (getS ro m d).1 := rfl
            rw [he]
            split at h
            · rename_i b hb
              rw [hb]
              simp only [toV]
              refine ⟨fun hw => ?_, fun hw => ?_⟩
              · rcases brS h with ⟨q, h⟩ | ⟨q, h⟩
                · subst q
                  have : want = true := by simpa using hw
                  subst this
                  exact hA _ (refine_eq hb) h
                · subst q
                  have : want = false := by simpa using hw
                  subst this
                  exact hA _ (refine_eq hb) h
              · rcases brS h with ⟨q, h⟩ | ⟨q, h⟩
                · subst q
                  have : want = false := by simpa using hw
                  subst this
                  exact hB _ (refine_eq hb) h
                · subst q
                  have : want = true := by simpa using hw
                  subst this
                  exact hB _ (refine_eq hb) h
            · rename_i hb
              rw [hb]
              simp only [toV]
              exact hB m rfl h
            · cases h
          · rename_i hne
            split
            · rename_i d hd; exact absurd hd (hne d)
            · exact hB m rfl h
end
end Go.X
