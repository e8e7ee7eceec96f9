import Derived.Test.YtjcbpfhlgebgdaaE10T
import Derived.Still
set_option linter.unusedSimpArgs false
set_option linter.unusedVariables false
namespace Go.Eng
open Go.RowKit
def St.newBox (st : St) (cs : List V) (ty : TypeId) : St := { st with nb := st.nb + 1, box := upd st.box st.nb (some ⟨cs, ty⟩) }
def boxVC (st : St) (e : TypeId) (v : V) (dst : Option Nat) (K : St → Prop) : Prop :=
  e < 1000000000 ∧ v.csize.isSome = true ∧ st.box st.nb = none ∧ K ((st.newBox v.cellsL e).put dst (.loc st.nb 0) none)
def storeVC (P : Program) (t : TypeId) (st : St) (x y : V) (dst : Option Nat) (K : St → Prop) : Prop :=
  match x with
  | .loc i off => (match st.box i, sizeT P t with
    | some B, some n => B.ty < 1000000000 ∧ y.csize = some n ∧ off + n ≤ B.cells.length ∧ dst = none ∧ K (st.setBox i ⟨B.cells.take off ++ y.cellsL ++ B.cells.drop (off + n), B.ty⟩)
    | _, _ => False)
  | _ => False
def appendVC (P : Program) (st : St) (ss : Nat) (x : V) (t u : TypeId) (dst : Option Nat) (K : St → Prop) : Prop :=
  match st.env ss, st.tok ss, sliceT P t with
  | .list rows, some (tk, e), some e' => (match sizeT P e, bytesT P e, zeroT P e with
    | some sz, some by', some zv => (e = e' ∧ tcl tk < 2 ∧ srcT P u = true ∧ zv.csize = some sz ∧ by' ≠ 0) ∧ rowsOK sz rows ∧ (match x with
      | .list rows2 => rowsOK sz rows2 ∧ (rows.length + rows2.length) * by' ≤ 140737488355328 ∧ K ((st.clear tk).put dst (.list (rows ++ rows2)) (some (tk, e)))
      | .str l => sz = 1 ∧ (rows.length + l.length) * by' ≤ 140737488355328 ∧ K ((st.clear tk).put dst (.list (rows ++ bytesV l)) (some (tk, e)))
      | _ => False)
    | _, _, _ => False)
  | _, _, _ => False
def mkMapVC (st : St) (t : TypeId) (dst : Option Nat) (K : St → Prop) : Prop :=
  st.box st.nb = none ∧ K ((st.newBox [] (1000000000 + t)).put dst (.mref st.nb) none)
def mapPutVC (P : Program) (t : TypeId) (st : St) (m x y : V) (dst : Option Nat) (K : St → Prop) : Prop :=
  match m, mapT P t with
  | .mref i, some (kt, _) => (match st.box i, keyT P kt with
    | some B, some (ag, ks) => 1000000000 ≤ B.ty ∧ KeyT P kt ∧ keyOK ag ks x ∧ keysOK ag ks B.cells ∧ dst = none ∧ K (st.setBox i ⟨mapPut B.cells x y, B.ty⟩)
    | _, _ => False)
  | _, _ => False
def callAVC (P : Program) (dr : Bool) (st : St) (f : V) (args : List V) (dst : Option Nat) (K : St → Prop) : Prop :=
  match f with
  | .fn (.func g) first cap => callVC P g (first ++ args ++ cap) (fun v => K (st.put dst v none)) ∨ (dr = false ∧ callBVC P g (first ++ args ++ cap) st dst K)
  | _ => False
def putV (o : Oper) (st : St) (v : V) (tk : Option (Nat × TypeId)) : St :=
  bif isCopy o then st.put o.dst v tk else (st.fresh tk).put o.dst v tk
def newOp (o : Oper) : Bool := match o.op with
  | .assign (.const (.slice none 0 0)) => true
  | .buildSlice .. | .slice .. => true
  | _ => false
def tokOK (dr : Bool) (o : Oper) (tk : Option (Nat × TypeId)) : Prop := dr = true → isCopy o = false → ∀ t e, tk = some (t, e) → newOp o = true ∧ o.dst = some (t % 1000000) ∧ tcl t < 2
def semVC (P : Program) (o : Oper) (st : St) (K : St → Prop) : Prop := ∀ n', (∀ d, o.dst = some d → d < n') → (∀ d, o.dst = some d → d < 1000000) → OpOK P n' o st K
def opVC0 (P : Program) (dr : Bool) (o : Oper) (st : St) (K : St → Prop) : Prop :=
  match o.op with
  | .box e x => boxVC st e (st.eval x) o.dst K
  | .alloc e => (match zeroT P e with | some v => boxVC st e v o.dst K | none => False)
  | .store t x y => storeVC P t st (st.eval x) (st.eval y) o.dst K
  | .call { callee := .builtin .append, args, argTypes } => (match args.toList, argTypes.toList with
    | [.tmp ss, x], [t, u] => appendVC P st ss (st.eval x) t u o.dst K
    | _, _ => False)
  | .makeMap t none => mkMapVC st t o.dst K
  | .mapUpdate t m x y => mapPutVC P t st (st.eval m) (st.eval x) (st.eval y) o.dst K
  | .call { callee := .value f, args, .. } => callAVC P dr st (st.eval f) (args.toList.map st.eval) o.dst K
  | _ => valVC P o st fun v tk => tokOK dr o tk ∧ K (putV o st v tk)
def opVC (P : Program) (dr : Bool) (o : Oper) (st : St) (K : St → Prop) : Prop := opVC0 P dr o st K ∨ (dr = false ∧ semVC P o st K)
def dstOK (n : Nat) (o : Oper) : Bool := match o.dst with | some d => decide (d < n) && decide (d < 1000000) | none => true
section
variable {P : Program} {n' : Nat} {dr : Bool} {o : Oper} {st : St} {K : St → Prop}
theorem dstOK_spec {n : Nat} (h : dstOK n o = true) : ∀ d, o.dst = some d → d < n := by
  intro d hd
  simp [dstOK, hd] at h
  exact h.1
theorem dstOK_small {n : Nat} (h : dstOK n o = true) : ∀ d, o.dst = some d → d < 1000000 := by
  intro d hd
  simp [dstOK, hd] at h
  exact h.2
theorem opok_qvf {v : V} {tk : Option (Nat × TypeId)} (h : QVF P o st.eval st.tokOf st.box v tk) (hd : ∀ d, o.dst = some d → d < n') (hk : K (putV o st v tk)) : OpOK P n' o st K := by
  unfold putV at hk
  rcases h with ⟨hc, fr, hq, ht⟩ | ⟨hc, x, hx, rfl, rfl⟩
  · rw [hc] at hk
    exact opok_quiet hq ht hd hk
  · rw [hc] at hk
    exact opok_copy hx hd hk
theorem opok_qvt {v : V} {tk : Option (Nat × TypeId)} (h : QVT P o st.eval st.tokOf st.box v tk) (hd : ∀ d, o.dst = some d → d < n') (hk : K (st.put o.dst v tk)) : OpOK P n' o st K := by
  rcases h with ⟨fr, hq, ht⟩ | ⟨x, hx, rfl, rfl⟩
  · subst ht
    exact opok_quiet hq (tk := none) (fun _ _ h => by cases h) hd hk
  · exact opok_copy hx hd hk
theorem SRel.nb {F : Fr} {a : Act} {w : World} {pr : Nat → Nat → Prop} {lam : Nat → Option Nat} (h : SRel P F st a w pr lam) (n : Nat) : SRel P F { st with nb := n } a w pr lam :=
  ⟨h.size, h.defers, h.env, h.own, h.coh, h.box, h.inj, h.apart, h.nolam, h.prlt, h.keep, h.prsub, h.prnew, h.lamsub, h.coh2, h.old, h.ptr⟩
theorem opok_nb (h : OpOK P n' o st fun st' => K { st' with nb := st'.nb + 1 }) : OpOK P n' o st K := by
  intro F a w pr lam hF hs next Q hn
  exact h F a w pr lam hF hs next Q fun st' a' w' pr' lam' hk hs' => hn _ a' w' pr' lam' hk (hs'.nb _)
theorem opVC_sound (hd : dstOK n' o = true) (h : opVC P dr o st K) : OpOK P n' o st K := by
  have hd' := dstOK_spec hd
  rcases h with h | ⟨_, h⟩
  rotate_left
  · exact h n' hd' (dstOK_small hd)
  unfold opVC0 at h
  split at h
  · rename_i e x ho
    obtain ⟨h0, h1, h2, h3⟩ := h
    obtain ⟨n, hn⟩ := Option.isSome_iff_exists.1 h1
    refine opok_nb (opok_box ho rfl hn h2 h0 hd' ?_)
    cases hq : o.dst <;> (rw [hq] at h3; exact h3)
  · rename_i e ho
    split at h
    · rename_i v hz
      obtain ⟨h0, h1, h2, h3⟩ := h
      obtain ⟨n, hn⟩ := Option.isSome_iff_exists.1 h1
      refine opok_nb (opok_alloc ho hz hn h2 h0 hd' ?_)
      cases hq : o.dst <;> (rw [hq] at h3; exact h3)
    · exact h.elim
  · rename_i t x y ho
    unfold storeVC at h
    split at h
    · rename_i i off hx
      split at h
      · rename_i B n hB hs
        exact opok_store ho hx rfl hB h.2.1 hs h.2.2.1 h.1 h.2.2.2.1 h.2.2.2.2
      · exact h.elim
    · exact h.elim
  · rename_i args tys ho
    split at h
    · rename_i ss x t u ha ht
      have ea : args = #[.tmp ss, x] := by obtain ⟨l⟩ := args; simpa using ha
      have et : tys = #[t, u] := by obtain ⟨l⟩ := tys; simpa using ht
      subst ea; subst et
      unfold appendVC at h
      split at h
      · rename_i rows tk e e' hr htk hT
        split at h
        · rename_i sz by' zv hs hb hz
          obtain ⟨⟨rfl, hcl, h1, h2, h2b⟩, h3, h4⟩ := h
          have hmax : ∀ m : Nat, m * by' ≤ 140737488355328 → m ≤ maxLen := by
            intro m hm
            have : m * 1 ≤ m * by' := Nat.mul_le_mul_left _ (Nat.one_le_iff_ne_zero.2 h2b)
            simp only [maxLen]; omega
          split at h4
          · rename_i rows2 hx
            obtain ⟨h5, h6, h7⟩ := h4
            exact opok_append_src ho hr htk hcl (sliceT_spec hT) h1 hs hb hz h2 h3 (fun w pr lam xv hxv => Src.list (by rw [hx] at hxv; exact hxv) h5) h6 (hmax _ h6) hd' h7
          · rename_i l hx
            obtain ⟨h5, h6, h7⟩ := h4
            subst h5
            have hl : (bytesV l).length = l.length := by simp [bytesV]
            exact opok_append_src ho hr htk hcl (sliceT_spec hT) h1 hs hb hz h2 h3 (fun w pr lam xv hxv => Src.str (by rw [hx] at hxv; exact hxv)) (by rw [hl]; exact h6) (by rw [hl]; exact hmax _ h6) hd' h7
          · exact h4.elim
        · exact h.elim
      · exact h.elim
    · exact h.elim
  · rename_i t ho
    obtain ⟨h1, h2⟩ := h
    refine opok_nb (opok_makeMap ho h1 hd' ?_)
    cases hq : o.dst <;> (rw [hq] at h2; exact h2)
  · rename_i t m x y ho
    unfold mapPutVC at h
    split at h
    · rename_i i kt et hm hT
      split at h
      · rename_i B ag ks hB hk
        exact opok_mapUpdate ho hm hB h.1 hT hk h.2.1 h.2.2.1 h.2.2.2.1 h.2.2.2.2.1 h.2.2.2.2.2
      · exact h.elim
    · exact h.elim
  · rename_i f args tys ho
    unfold callAVC at h
    split at h
    · rename_i g first cap hf
      rcases h with ⟨h1, h2, res, h3, h4⟩ | ⟨_, h⟩
      · exact opok_qvt (.inl ⟨none, qv_call ho hf h1 h2 h3, rfl⟩) hd' h4
      · exact opok_callB ho hf hd' h
    · exact h.elim
  · obtain ⟨v, tk, hq, hk⟩ := valVC_sound (dstOK_small hd) h
    exact opok_qvf hq hd' hk.2
end
end Go.Eng
