import Derived.Test.YtgihkmmcddhajaaX5
/- X, part 6: regions; states that know less. -/
namespace Go.X
open Go.Eng
open Go.RowKit
set_option linter.unusedSimpArgs false
set_option linter.unusedVariables false
variable {β : Type}

section
variable {P : Program} {X : XCtx P} {ro : RO} {r : β} {Kp : St → Prop}

theorem refine_eq {m : Mm} {t : Nat} {b : Bool} (h : (getS ro m t).1 = .bool b) : toSt ro (refineX ro m (.tmp t) b) = toSt ro m := by
  unfold refineX
  simp only
  cases ho : ro.own t with
  | false => rfl
  | true =>
    simp only [cond_true]
    rw [toSt_put ho]
    show (⟨_, upd _ t _, _⟩ : St) = toSt ro m
    have : upd (toSt ro m).sl t (toV (S.bool b), (getS ro m t).2) = (toSt ro m).sl := by
      funext s
      unfold upd
      split
      · rename_i e; subst e; rw [← h]; rfl
      · rfl
    rw [this]

theorem refine_eqX {m : Mm} {x : Operand} {b : Bool} (h : evalX ro m x = .bool b) : toSt ro (refineX ro m x b) = toSt ro m := by
  cases x with
  | tmp t => exact refine_eq h
  | const v => rfl
  | global g => rfl
  | func f => rfl

theorem opsX_sound {mu : Bool} (hro : ROok mu ro) {dr : Bool} {ds : List (Option Nat)} {k : Mm → Option β} (hK : ∀ m', k m' = some r → Kp (toSt ro m')) : ∀ (os : List Oper) (m : Mm), opsX X ro dr ds os m k = some r → opsVC P dr ds os (toSt ro m) Kp
  | [], m, h => hK m h
  | o :: os, m, h => by
    simp only [opsX] at h
    simp only [opsVC]
    have hA : ∀ m', toSt ro m' = toSt ro m → opX X ro dr o m' (fun m' => opsX X ro dr ds os m' k) = some r → opVC P dr o (toSt ro m) fun st' => opsVC P dr ds os st' Kp := by
      intro m' e h
      rw [← e]
      exact opX_sound hro (fun m'' h' => opsX_sound hro hK os m'' h') h
    have hB : ∀ m', toSt ro m' = toSt ro m → putX ro m' o.dst .un none (fun m' => opsX X ro dr ds os m' k) = some r → opsVC P dr ds os ((toSt ro m).put o.dst .un none) Kp := by
      intro m' e h
      obtain ⟨m'', e', h'⟩ := putX_sound h
      rw [← e]
      have : toV S.un = .un := by simp [toV]
      rw [this] at e'
      rw [e']
      exact opsX_sound hro hK os m'' h'
    unfold gdX at h
    unfold gdVC
    split at h
    · rename_i hg
      simp only [hg]
      exact hA m rfl h
    · rename_i j want hg
      simp only [hg]
      split at h
      · rename_i d hd
        simp only [hd]
        have he : (toSt ro m).env d = toV (getS ro m d).1 := rfl
        rw [he]
        split at h
        · rename_i b hb
          rw [hb]
          simp only [toV]
          refine ⟨fun hw => ?_, fun hw => ?_⟩
          · rcases brS h with ⟨q, h⟩ | ⟨q, h⟩
            · subst q
              have : want = true := by simpa using hw
              subst this
              exact hA _ (refine_eq hb) h
            · subst q
              have : want = false := by simpa using hw
              subst this
              exact hA _ (refine_eq hb) h
          · rcases brS h with ⟨q, h⟩ | ⟨q, h⟩
            · subst q
              have : want = false := by simpa using hw
              subst this
              exact hB _ (refine_eq hb) h
            · subst q
              have : want = true := by simpa using hw
              subst this
              exact hB _ (refine_eq hb) h
        · rename_i hb
          rw [hb]
          simp only [toV]
          exact hB m rfl h
        · cases h
      · rename_i hne
        split
        · rename_i d hd; exact absurd hd (hne d)
        · exact hB m rfl h
end

end Go.X
