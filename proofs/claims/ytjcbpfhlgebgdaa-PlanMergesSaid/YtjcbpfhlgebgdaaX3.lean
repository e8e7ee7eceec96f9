import Derived.Test.YtjcbpfhlgebgdaaX2
set_option linter.unusedSimpArgs false
set_option linter.unusedVariables false
namespace Go.X
open Go.Eng
open Go.RowKit
theorem condS {α : Type} {c : Bool} {a : Option α} {r : α} (h : (bif c then a else none) = some r) : c = true ∧ a = some r := by
  cases c
  · cases h
  · exact ⟨rfl, h⟩
theorem brS {α : Type} {b : Bool} {x y : Option α} {r : α} (h : br b x y = some r) : (b = true ∧ x = some r) ∨ (b = false ∧ y = some r) := by
  cases b
  · exact .inr ⟨rfl, h⟩
  · exact .inl ⟨rfl, h⟩
theorem iteS {α : Type} {c : Prop} [Decidable c] {a : Option α} {r : α} (h : (if c then a else none) = some r) : c ∧ a = some r := by
  split at h
  · exact ⟨‹_›, h⟩
  · cases h
theorem toVL_length (cs : List S) : (toVL cs).length = cs.length := by rw [toVL_map]; simp
theorem toVL_drop (cs : List S) (n : Nat) : toVL (cs.drop n) = (toVL cs).drop n := by simp [toVL_map, List.map_drop]
theorem toVL_take (cs : List S) (n : Nat) : toVL (cs.take n) = (toVL cs).take n := by simp [toVL_map, List.map_take]
theorem toVL_append (cs ds : List S) : toVL (cs ++ ds) = toVL cs ++ toVL ds := by simp [toVL_map]
theorem toVL_get (cs : List S) (n : Nat) : (toVL cs)[n]? = (cs[n]?).map toV := by simp [toVL_map]
theorem toVL_seg (cs : List S) (o n : Nat) : toVL ((cs.drop o).take n) = ((toVL cs).drop o).take n := by rw [toVL_take, toVL_drop]
theorem constX_V (v : Value) : toV (constX v) = constC v := by
  unfold constX
  split
  case h_3 =>
    simp only [constC]
    rename_i s
    by_cases hc : s.size ≤ maxLen
    · rw [if_pos hc, Nat.ble_eq_true_of_le hc]; simp [toV]
    · have : Nat.ble s.size maxLen = false := by
        cases hb : Nat.ble s.size maxLen
        · rfl
        · exact absurd (Nat.le_of_ble_eq_true hb) hc
      rw [if_neg hc, this]; simp [toV]
  all_goals first
    | (simp [constC, toV, toVL]; done)
    | (unfold constC; split <;> simp_all [toV, toVL])
theorem constXV_V (v : Value) : toV (constXV v) = constV v := by
  unfold constXV
  split
  · rename_i cs
    simp only [constV]
    by_cases h : cs.toList.all (fun x => x.oneCell') = true
    · rw [if_pos h, h]; simp only [cond_true, toV, toVL_map, List.map_map]
      congr 1
      exact List.map_congr_left fun x _ => constX_V x
    · rw [if_neg h]
      rw [Bool.not_eq_true] at h
      rw [h]; simp [toV]
  · simp only [constV, toV, toVL_map, List.map_map]
    congr 1
    exact List.map_congr_left fun x _ => constX_V x
  · rename_i h1 h2
    rw [constX_V]
    cases v <;> first | rfl | (exact absurd rfl (h1 _)) | (exact absurd rfl (h2 _))
theorem map_constXV (vs : List Value) : toVL (vs.map constXV) = vs.map constV := by
  rw [toVL_map, List.map_map]
  exact List.map_congr_left fun x _ => constXV_V x
theorem evalX_V (ro : RO) (m : Mm) (x : Operand) : toV (evalX ro m x) = (toSt ro m).eval x := by
  cases x with
  | tmp t => rfl
  | const v => exact constXV_V v
  | global g =>
    simp only [evalX, toV, St.eval]
    cases GL g <;> rfl
  | func f => simp [evalX, toV, toVL, St.eval]
theorem evalX_VL (ro : RO) (m : Mm) (xs : List Operand) : toVL (xs.map (evalX ro m)) = xs.map (toSt ro m).eval := by
  rw [toVL_map, List.map_map]
  exact List.map_congr_left fun x _ => evalX_V ro m x
theorem tokX_V (ro : RO) (m : Mm) (x : Operand) : tokX ro m x = (toSt ro m).tokOf x := by
  cases x <;> rfl
theorem iv_csize (x : IV) : (enc_iv x).csize = some 1 := by cases x <;> rfl
theorem iv_cellsL (x : IV) : (enc_iv x).cellsL = [enc_iv x] := by cases x <;> rfl
theorem cszS_V {s : S} {n : Nat} (h : cszS s = some n) : (toV s).csize = some n := by
  cases s <;> simp only [cszS, Option.some.injEq, reduceCtorEq] at h <;> subst h <;> first | (simp only [toV]; exact iv_csize _) | simp [toV, V.csize, toVL_length]
theorem cellsS_V {s : S} {n : Nat} (h : cszS s = some n) : toVL (cellsS s) = (toV s).cellsL := by
  cases s <;> simp only [cszS, Option.some.injEq, reduceCtorEq] at h <;> first | (simp only [toV, toVL, cellsS]; exact (iv_cellsL _).symm) | simp [toV, toVL, V.cellsL, cellsS]
theorem refl_csz (c : C) (x : den c) : cszS (refl c x) = some (csz c) := by
  cases c <;> rfl
theorem refl_cells (c : C) (x : den c) : toVL (cellsS (refl c x)) = (enc c x).cellsL := by
  rw [cellsS_V (refl_csz c x), refl_enc]
theorem refl_noLocS (c : C) (x : den c) : noLocS (refl c x) = true := by
  cases c <;> rfl
theorem constC_noLoc (v : Value) : (constC v).noLoc = true := by
  unfold constC
  split <;> try (simp [V.noLoc, V.noLocL]; done)
  split <;> simp [V.noLoc]
theorem noLocL_of {l : List V} (h : ∀ v ∈ l, v.noLoc = true) : V.noLocL l = true := by
  induction l with
  | nil => rfl
  | cons x l ih => simp [V.noLocL, h x (by simp), ih fun v hv => h v (by simp [hv])]
theorem constV_noLoc (v : Value) : (constV v).noLoc = true := by
  unfold constV
  split
  · split
    · simp only [V.noLoc]
      refine noLocL_of fun v hv => ?_
      obtain ⟨x, _, rfl⟩ := List.mem_map.1 hv
      exact constC_noLoc x
    · rfl
  · simp only [V.noLoc]
    refine noLocL_of fun v hv => ?_
    obtain ⟨x, _, rfl⟩ := List.mem_map.1 hv
    exact constC_noLoc x
  · exact constC_noLoc _
theorem gel_noLoc (g off : Nat) : (toV (.gel g off)).noLoc = true := by
  simp only [toV]
  split
  · simp only [V.noLoc]
    refine noLocL_of fun v hv => ?_
    obtain ⟨x, _, rfl⟩ := List.mem_map.1 hv
    exact constV_noLoc x
  · rfl
mutual
theorem noLocS_V : ∀ s : S, noLocS s = true → (toV s).noLoc = true
  | .any, _ => by simp [toV, V.noLoc]
  | .un, _ => by simp [toV, V.noLoc]
  | .int _ _, _ => by simp [toV, V.noLoc]
  | .bool _, _ => by simp [toV, V.noLoc]
  | .str _, _ => by simp [toV, V.noLoc]
  | .agg cs, h => by simp only [noLocS] at h; simp only [toV, V.noLoc]; exact noLocSL_V cs h
  | .tup cs, h => by simp only [noLocS] at h; simp only [toV, V.noLoc]; exact noLocSL_V cs h
  | .loc _ _, h => by simp [noLocS] at h
  | .loco _ _ _ _, h => by simp [noLocS] at h
  | .elt cs _, h => by simp only [noLocS] at h; simp only [toV, V.noLoc]; exact noLocSL_V cs h
  | .gel g off, _ => gel_noLoc g off
  | .nilp, _ => by simp [toV, V.noLoc]
  | .lst c l, _ => by simp only [toV, V.noLoc]; exact noLocL_map' (enc_noLoc c) l
  | .rows vs, h => by simp only [noLocS] at h; simp only [toV, V.noLoc]; exact noLocSL_V vs h
  | .fn _ a b, h => by
    simp only [noLocS, Bool.and_eq_true] at h; simp only [toV, V.noLoc, Bool.and_eq_true]
    exact ⟨noLocSL_V a h.1, noLocSL_V b h.2⟩
  | .nilfn, _ => by simp [toV, V.noLoc]
  | .iface _ v, h => by simp only [noLocS] at h; simp only [toV, V.noLoc]; exact noLocS_V v h
  | .nilif, _ => by simp [toV, V.noLoc]
  | .mref _, h => by simp [noLocS] at h
  | .nilm, _ => by simp [toV, V.noLoc]
  | .ptr _ _ _, _ => by simp [toV, V.noLoc]
  | .ivd x, _ => by simp only [toV]; exact noLoc_iv x
theorem noLocSL_V : ∀ cs : List S, noLocSL cs = true → V.noLocL (toVL cs) = true
  | [], _ => by simp [toVL, V.noLocL]
  | c :: cs, h => by
    simp only [noLocSL, Bool.and_eq_true] at h
    simp only [toVL, V.noLocL, Bool.and_eq_true]
    exact ⟨noLocS_V c h.1, noLocSL_V cs h.2⟩
end
theorem encM_noLoc {kc vc : C} (l : List (den kc × den vc)) : V.noLocL (encM (enc kc) (enc vc) l) = true := by
  refine noLocL_of fun v hv => ?_
  obtain ⟨x, _, rfl⟩ := List.mem_map.1 hv
  simp [V.noLoc, V.noLocL, enc_noLoc]
theorem noLocB_V {B : SBox} (h : noLocB B = true) : V.noLocL (toBox B).cells = true := by
  cases B with
  | cells cs ty => exact noLocSL_V cs h
  | map mt kc vc l => exact encM_noLoc l
theorem toSt_put {ro : RO} {m : Mm} {d : Nat} {v : S} {tk : Tk} (ho : ro.own d = true) : toSt ro ⟨m.sl.set d (v, tk), m.bx⟩ = (toSt ro m).put (some d) (toV v) tk := by
  have hb : ∀ i, getB ro ⟨m.sl.set d (v, tk), m.bx⟩ i = getB ro m i := fun i => rfl
  have hs : ∀ s, getS ro ⟨m.sl.set d (v, tk), m.bx⟩ s = if s = d then (v, tk) else getS ro m s := by
    intro s
    unfold getS
    by_cases h : s = d
    · subst h; rw [ho, if_pos rfl]; simp [T.get_set]
    · rw [if_neg h]; simp [T.get_set, h]
  unfold toSt St.put
  simp only [hb, hs]
  congr 1
  funext s
  unfold upd
  split <;> rfl
variable {β : Type}
theorem putX_sound {ro : RO} {m : Mm} {dst : Option Nat} {v : S} {tk : Tk} {k : Mm → Option β} {r : β} (h : putX ro m dst v tk k = some r) :
    ∃ m', (toSt ro m).put dst (toV v) tk = toSt ro m' ∧ k m' = some r := by
  unfold putX at h
  split at h
  · exact ⟨m, rfl, h⟩
  · rename_i d
    obtain ⟨h1, h2⟩ := condS h
    exact ⟨_, (toSt_put h1).symm, h2⟩
section
variable {P : Program} {code : TypeId → Option C} {ro : RO} {m : Mm} {r : β} {K : S → Option β} {Kp : V → Prop} {K2 : S → Tk → Option β} {K2p : V → Tk → Prop}
theorem addI_spec {k : IntKind} {a b n : Int} (h : addI k a b = some n) : InR k (a + b) ∧ n = a + b := by
  obtain ⟨h1, h2⟩ := iteS h; cases h2; exact ⟨h1, rfl⟩
theorem subI_spec {k : IntKind} {a b n : Int} (h : subI k a b = some n) : InR k (a - b) ∧ n = a - b := by
  obtain ⟨h1, h2⟩ := iteS h; cases h2; exact ⟨h1, rfl⟩
theorem mulI_spec {k : IntKind} {a b n : Int} (h : mulI k a b = some n) : InR k (a * b) ∧ n = a * b := by
  obtain ⟨h1, h2⟩ := iteS h; cases h2; exact ⟨h1, rfl⟩
theorem quoI_spec {k : IntKind} {a b n : Int} (h : quoI k a b = some n) : (b ≠ 0 ∧ InR k (a.tdiv b)) ∧ n = a.tdiv b := by
  obtain ⟨h1, h2⟩ := iteS h; cases h2; exact ⟨h1, rfl⟩
theorem remI_spec {a b n : Int} (h : remI a b = some n) : b ≠ 0 ∧ n = a.tmod b := by
  obtain ⟨h1, h2⟩ := iteS h; cases h2; exact ⟨h1, rfl⟩
theorem catS_spec {s t n : List UInt8} (h : catS s t = some n) : s.length + t.length ≤ maxLen ∧ n = s ++ t := by
  obtain ⟨h1, h2⟩ := iteS h; cases h2; exact ⟨h1, rfl⟩
theorem slc_spec {α : Type} {l q : List α} {lo hi : Int} (h : slc l lo hi = some q) : (0 ≤ lo ∧ lo ≤ hi ∧ hi ≤ l.length) ∧ q = (l.take hi.toNat).drop lo.toNat := by
  obtain ⟨h1, h2⟩ := iteS h; cases h2; exact ⟨h1, rfl⟩
theorem idx_spec {α : Type} {l : List α} {i : Int} {x : α} (h : idx l i = some x) : 0 ≤ i ∧ i < l.length ∧ l[i.toNat]? = some x := by
  obtain ⟨h1, h2⟩ := iteS h
  have := (List.getElem?_eq_some_iff.1 h2).1
  exact ⟨h1, by omega, h2⟩
theorem unreflL_V {c : C} : ∀ {ss : List S} {l : List (den c)}, unreflL c ss = some l → toVL ss = l.map (enc c)
  | [], l, h => by simp only [unreflL, Option.some.injEq] at h; subst h; simp [toVL]
  | s :: ss, l, h => by
    simp only [unreflL] at h
    split at h
    · rename_i x hx
      split at h
      · rename_i xs hxs
        cases h
        simp only [toVL, List.map_cons, unrefl_enc hx, unreflL_V hxs]
      · cases h
    · cases h
theorem tblA_spec {c : C} {g off n : Nat} {x : den c} (h : tblA c g off n = some x) : ∃ vs, GL g = some vs ∧ off + n ≤ vs.length ∧ V.agg (((vs.map constV).drop off).take n) = enc c x := by
  unfold tblA at h
  split at h
  · rename_i vs hg
    obtain ⟨h1, h2⟩ := iteS h
    refine ⟨vs, hg, h1, ?_⟩
    rw [← unrefl_enc h2]
    simp only [toV, toVL_seg, map_constXV]
  · cases h
theorem tbl1_spec {c : C} {g off : Nat} {x : den c} (h : tbl1 c g off = some x) : ∃ vs, GL g = some vs ∧ (vs.map constV)[off]? = some (enc c x) := by
  unfold tbl1 at h
  split at h
  · rename_i vs hg
    split at h
    · rename_i s hs
      refine ⟨vs, hg, ?_⟩
      rw [← map_constXV, toVL_get, hs, Option.map_some, unrefl_enc h]
    · cases h
  · cases h
theorem loadX_sound {t : TypeId} {x : S} (hK : ∀ s, K s = some r → Kp (toV s)) (h : loadX P code ro m t x K = some r) : loadVC P t (toSt ro m).box (toV x) Kp := by
  unfold loadX at h
  split at h
  · rename_i cs off ha
    split at h
    · rename_i n hs
      obtain ⟨h1, h2⟩ := condS h
      simp only [toV, loadVC, ha, hs]
      refine ⟨by rw [toVL_length]; exact Nat.le_of_ble_eq_true h1, ?_⟩
      have := hK _ h2
      simpa only [toV, toVL_seg] using this
    · cases h
  · rename_i cs off ha
    split at h
    · rename_i c hc
      simp only [toV, loadVC, ha, toVL_get, hc, Option.map_some]
      exact hK _ h
    · cases h
  · rename_i i off ha
    split at h
    · rename_i cs ty n hB hs
      obtain ⟨h1, h2⟩ := condS h
      simp only [Bool.and_eq_true] at h1
      have hb : (toSt ro m).box i = some ⟨toVL cs, ty⟩ := by show (getB ro m i).map toBox = _; rw [hB]; rfl
      simp only [toV, loadVC, ha, hb, hs]
      refine ⟨Nat.le_of_ble_eq_true h1.1, by rw [toVL_length]; exact Nat.le_of_ble_eq_true h1.2, ?_⟩
      have := hK _ h2
      simpa only [toV, toVL_seg] using this
    · cases h
  · rename_i i off ha
    split at h
    · rename_i cs ty hB
      obtain ⟨h1, h2⟩ := condS h
      have hb : (toSt ro m).box i = some ⟨toVL cs, ty⟩ := by show (getB ro m i).map toBox = _; rw [hB]; rfl
      split at h2
      · rename_i c hc
        simp only [toV, loadVC, ha, hb, toVL_get, hc, Option.map_some]
        exact ⟨Nat.le_of_ble_eq_true h1, hK _ h2⟩
      · cases h2
    · cases h
  · rename_i i a n ix ha
    split at h
    · rename_i cs ty c hB hc
      obtain ⟨h1, h2⟩ := condS h
      simp only [Bool.and_eq_true] at h1
      have hb : (toSt ro m).box i = some ⟨toVL cs, ty⟩ := by show (getB ro m i).map toBox = _; rw [hB]; rfl
      split at h2
      · rename_i l hl
        obtain ⟨y, h3, h4⟩ := bind_some h2
        obtain ⟨q1, q2, q3⟩ := idx_spec h3
        have hle := Nat.le_of_ble_eq_true h1.2
        have hseg := unreflL_V hl
        have hlen : l.length = n := by
          have := congrArg List.length hseg
          rw [toVL_length, List.length_map, List.length_take, List.length_drop] at this
          omega
        have hget : (toVL cs)[a + ix.toNat]? = some (enc c y) := by
          have : ((toVL ((cs.drop a).take n)))[ix.toNat]? = some (enc c y) := by rw [hseg, List.getElem?_map, q3]; rfl
          rw [toVL_seg, List.getElem?_take, if_pos (by omega), List.getElem?_drop] at this
          exact this
        simp only [toV, loadVC, ha, hb, hget]
        refine ⟨Nat.le_of_ble_eq_true h1.1, ?_⟩
        rw [← refl_enc]
        exact hK _ h4
      · cases h2
    · cases h
  · rename_i g off ha
    split at h
    · rename_i n c hs hc
      obtain ⟨y, h1, h2⟩ := bind_some h
      obtain ⟨vs, q1, q2, q3⟩ := tblA_spec h1
      simp only [toV, q1, loadVC, ha, hs]
      refine ⟨by simpa using q2, ?_⟩
      rw [q3, ← refl_enc]
      exact hK _ h2
    · cases h
  · rename_i g off ha
    split at h
    · rename_i c hc
      obtain ⟨y, h1, h2⟩ := bind_some h
      obtain ⟨vs, q1, q2⟩ := tbl1_spec h1
      simp only [toV, q1, loadVC, ha, q2]
      rw [← refl_enc]
      exact hK _ h2
    · cases h
  · cases h
theorem intX_sound {op : BinOp} {k : IntKind} {a b : Int} (hK : ∀ s, K s = some r → Kp (toV s)) (h : intX op k a b K = some r) : intVC op k a b Kp := by
  have hK' : ∀ s v, K s = some r → toV s = v → Kp v := fun s v h e => e ▸ hK s h
  cases op <;> simp only [intX, reduceCtorEq] at h
  case add => obtain ⟨n, h1, h2⟩ := bind_some h; obtain ⟨q1, rfl⟩ := addI_spec h1; exact ⟨q1, hK' _ _ h2 (by simp [toV])⟩
  case sub => obtain ⟨n, h1, h2⟩ := bind_some h; obtain ⟨q1, rfl⟩ := subI_spec h1; exact ⟨q1, hK' _ _ h2 (by simp [toV])⟩
  case mul => obtain ⟨n, h1, h2⟩ := bind_some h; obtain ⟨q1, rfl⟩ := mulI_spec h1; exact ⟨q1, hK' _ _ h2 (by simp [toV])⟩
  case quo => obtain ⟨n, h1, h2⟩ := bind_some h; obtain ⟨q1, rfl⟩ := quoI_spec h1; exact ⟨q1.1, q1.2, hK' _ _ h2 (by simp [toV])⟩
  case rem => obtain ⟨n, h1, h2⟩ := bind_some h; obtain ⟨q1, rfl⟩ := remI_spec h1; exact ⟨q1, hK' _ _ h2 (by simp [toV])⟩
  all_goals exact hK' _ _ h (by simp [toV])
theorem strX_sound {op : BinOp} {a b : List UInt8} (hK : ∀ s, K s = some r → Kp (toV s)) (h : strX op a b K = some r) : strVC op a b Kp := by
  have hK' : ∀ s v, K s = some r → toV s = v → Kp v := fun s v h e => e ▸ hK s h
  cases op <;> simp only [strX, reduceCtorEq] at h
  case add => obtain ⟨n, h1, h2⟩ := bind_some h; obtain ⟨q1, rfl⟩ := catS_spec h1; exact ⟨q1, hK' _ _ h2 (by simp [toV])⟩
  all_goals exact hK' _ _ h (by simp [toV])
theorem cellEqS_eq {a b : S} {k k' : CK} (ha : kindS a = some k) (hb : kindS b = some k') : cellEq (toV a) (toV b) = cellEqS a b := by
  cases a <;> simp only [kindS, reduceCtorEq] at ha <;> cases b <;> simp only [kindS, reduceCtorEq] at hb <;> simp [toV, cellEq, cellEqS]
theorem ckEq_spec {a b : CK} (h : ckEq a b = true) : a = b := by
  cases a <;> cases b <;> simp_all [ckEq]
theorem kindV_S {a : S} {k : CK} (h : kindS a = some k) : kindV (toV a) = some k := by
  cases a <;> simp only [kindS, reduceCtorEq] at h <;> simpa [toV, kindV] using h
theorem kindsS_cons {k : CK} {ks : List CK} {c : S} {cs : List S} (h : kindsS (k :: ks) (c :: cs) = true) : kindS c = some k ∧ kindsS ks cs = true := by
  simp only [kindsS, Bool.and_eq_true] at h
  refine ⟨?_, h.2⟩
  have h1 := h.1
  split at h1
  · rename_i k' hk; rw [hk, ckEq_spec h1]
  · cases h1
theorem kindsS_V : ∀ {ks : List CK} {cs : List S}, kindsS ks cs = true → kindsOK ks (toVL cs)
  | [], [], _ => by simp [toVL, kindsOK]
  | [], _ :: _, h => by simp [kindsS] at h
  | _ :: _, [], h => by simp [kindsS] at h
  | k :: ks, c :: cs, h => by
    obtain ⟨h1, h2⟩ := kindsS_cons h
    simp only [toVL, kindsOK]
    exact ⟨kindV_S h1, kindsS_V h2⟩
theorem eqS_V : ∀ {ks : List CK} {cs ds : List S}, kindsS ks cs = true → kindsS ks ds = true → eqV (toVL cs) (toVL ds) = eqS cs ds
  | [], [], [], _, _ => by simp [toVL, eqV, eqS]
  | [], _ :: _, _, h, _ => by simp [kindsS] at h
  | [], [], _ :: _, _, h => by simp [kindsS] at h
  | _ :: _, [], _, h, _ => by simp [kindsS] at h
  | _ :: _, _ :: _, [], _, h => by simp [kindsS] at h
  | k :: ks, c :: cs, d :: ds, h1, h2 => by
    obtain ⟨a1, a2⟩ := kindsS_cons h1
    obtain ⟨b1, b2⟩ := kindsS_cons h2
    have ih := eqS_V a2 b2
    cases cs with
    | nil =>
      cases ds with
      | nil => simp only [toVL, eqV, eqS]; exact cellEqS_eq a1 b1
      | cons d' ds => cases ks <;> simp [kindsS] at a2 b2
    | cons c' cs =>
      cases ds with
      | nil => cases ks <;> simp [kindsS] at a2 b2
      | cons d' ds =>
        simp only [toVL] at ih ⊢
        rw [eqV, eqS, ih, cellEqS_eq a1 b1]
        · simp
        · simp
theorem binX_sound {op : BinOp} {xT : TypeId} {a b : S} (hK : ∀ s, K s = some r → Kp (toV s)) (h : binX P op xT a b K = some r) : binVC P op xT (toV a) (toV b) Kp := by
  have hK' : ∀ s v, K s = some r → toV s = v → Kp v := fun s v h e => e ▸ hK s h
  unfold binX at h
  split at h
  · rename_i k x k' y
    simp only [toV, binVC]
    cases hs : isSh op with
    | true =>
      rw [hs] at h
      simp only [cond_true] at h
      right
      unfold shX at h
      unfold shVC
      cases op <;> simp only [isSh, Bool.false_eq_true] at hs
      · obtain ⟨n, h1, h2⟩ := bind_some h
        obtain ⟨h3, h4⟩ := iteS h1
        cases h4
        exact ⟨h3, hK' _ _ h2 (by simp [toV])⟩
      · obtain ⟨n, h1, h2⟩ := bind_some h
        obtain ⟨h3, h4⟩ := iteS h1
        cases h4
        exact ⟨h3, hK' _ _ h2 (by simp [toV])⟩
    | false =>
      rw [hs] at h
      simp only [cond_false] at h
      obtain ⟨h1, h2⟩ := iteS h
      exact .inl ⟨h1, intX_sound hK h2⟩
  · simp only [toV, binVC]
    exact strX_sound hK h
  · simp only [toV, binVC]
    split at h
    · rename_i hb; simp only [hb]; exact hK' _ _ h (by simp [toV])
    · rename_i hb; simp only [hb]; exact hK' _ _ h (by simp [toV])
    · cases h
  · rename_i cs ds
    simp only [toV, binVC]
    split at h
    · rename_i ks hk
      obtain ⟨h1, h2⟩ := condS h
      simp only [Bool.and_eq_true] at h1
      simp only [hk]
      exact ⟨kindsS_V h1.1, kindsS_V h1.2, hK' _ _ h2 (by simp [toV, eqS_V h1.1 h1.2])⟩
    · rename_i ks hk
      obtain ⟨h1, h2⟩ := condS h
      simp only [Bool.and_eq_true] at h1
      simp only [hk]
      exact ⟨kindsS_V h1.1, kindsS_V h1.2, hK' _ _ h2 (by simp [toV, eqS_V h1.1 h1.2])⟩
    · cases h
  · cases h
theorem unX_sound {op : UnOp} {x : S} (hK : ∀ s, K s = some r → Kp (toV s)) (h : unX op x K = some r) : unVC op (toV x) Kp := by
  have hK' : ∀ s v, K s = some r → toV s = v → Kp v := fun s v h e => e ▸ hK s h
  unfold unX at h
  split at h
  · simp only [toV, unVC]; exact hK' _ _ h (by simp [toV])
  · obtain ⟨n, h1, h2⟩ := bind_some h
    obtain ⟨q1, rfl⟩ := subI_spec h1
    simp only [toV, unVC]; exact ⟨q1, hK' _ _ h2 (by simp [toV])⟩
  · cases h
theorem bytesI_V (s : List UInt8) : (bytesI s).map (enc .u8) = bytesV s := by
  simp [bytesI, bytesV, enc, enc_u8]
theorem toBytes_V {l : List Int} {s : List UInt8} (h : toBytes l = some s) : l.map (enc .u8) = bytesV s := by
  obtain ⟨h1, h2⟩ := iteS h
  cases h2
  simp only [bytesV, List.map_map]
  refine List.map_congr_left fun n hn => ?_
  have := List.all_eq_true.1 h1 n hn
  simp only [Bool.and_eq_true, decide_eq_true_eq] at this
  simp only [enc, enc_u8, Function.comp]
  congr 1
  have h3 : n.toNat < 256 := by omega
  rw [UInt8.toNat_ofNat', Nat.mod_eq_of_lt h3]
  omega
theorem convX_sound {s d : TypeId} {x : S} (hK : ∀ s, K s = some r → Kp (toV s)) (h : convX P s d x K = some r) : convVC P s d (toV x) Kp := by
  have hK' : ∀ s v, K s = some r → toV s = v → Kp v := fun s v h e => e ▸ hK s h
  unfold convX at h
  split at h
  · rename_i h1 h2
    simp only [toV, convVC, h1, h2]; exact hK' _ _ h (by simp [toV])
  · rename_i h1 h2
    simp only [toV, convVC, h1, h2]; exact hK' _ _ h (by simp [toV])
  · rename_i h1 h2
    split at h
    · rename_i e he
      split at h
      · rename_i hb
        simp only [toV, convVC, h1, h2, he, hb]
        refine hK' _ _ h ?_
        simp only [toV]
        rw [bytesI_V]
      · cases h
    · cases h
  · rename_i h1 h2
    split at h
    · rename_i e he
      split at h
      · rename_i hb
        obtain ⟨y, h3, h4⟩ := bind_some h
        simp only [toV, convVC, h1, h2, he, hb]
        exact ⟨y, toBytes_V h3, hK' _ _ h4 (by simp [toV])⟩
      · cases h
    · cases h
  · cases h
theorem bndX_sound {x : Option Operand} {d : Nat} {Ki : Int → Option β} {Kn : Nat → Prop} (hK : ∀ i, Ki i = some r → 0 ≤ i ∧ Kn i.toNat) (h : bndX ro m x d Ki = some r) : bndVC (toSt ro m) x d Kn := by
  unfold bndX at h
  unfold bndVC
  cases x with
  | none => have := (hK _ h).2; simpa using this
  | some x =>
    simp only at h ⊢
    rw [← evalX_V]
    split at h
    · rename_i k i hi; simp only [hi, toV]; exact hK _ h
    · cases h
theorem elemC_spec {t : TypeId} {c : C} {e : TypeId} {n : Nat} (h : elemC P t c = some (e, n)) : sliceT P t = some e ∧ sizeT P e = some n ∧ n = csz c := by
  unfold elemC at h
  split at h
  · rename_i e' he
    split at h
    · rename_i n' hn
      obtain ⟨h1, h2⟩ := condS h
      cases h2
      exact ⟨he, hn, Nat.eq_of_beq_eq_true h1⟩
    · cases h
  · cases h
theorem rowsOK_lst (c : C) (l : List (den c)) : rowsOK (csz c) (l.map (enc c)) := by
  intro v hv
  obtain ⟨x, _, rfl⟩ := List.mem_map.1 hv
  exact enc_csize c x
theorem sliceX_sound {t : TypeId} {x : S} {lo hi mx : Option Operand} {dst : Option Nat} (hK : ∀ s tk, K2 s tk = some r → K2p (toV s) tk) (h : sliceX P ro m t x lo hi mx dst K2 = some r) :
    sliceVC P t (toSt ro m) (toV x) lo hi mx dst K2p := by
  have hK' : ∀ s tk v, K2 s tk = some r → toV s = v → K2p v tk := fun s tk v h e => e ▸ hK s tk h
  unfold sliceX at h
  split at h
  · rename_i s
    split at h
    · rename_i hb
      simp only [toV, sliceVC, hb]
      refine bndX_sound (fun a ha => ?_) h
      have hb2 : bndVC (toSt ro m) hi _ _ := bndX_sound (Kn := fun h => a.toNat ≤ h ∧ h ≤ s.length ∧ K2p (.str ((List.take h s).drop a.toNat)) none) (fun b hb => ?_) ha
      · refine ⟨?_, hb2⟩
        rcases hi with _ | hi
        · simp only [bndX] at ha
          obtain ⟨y, h1, _⟩ := bind_some ha
          exact (slc_spec h1).1.1
        · simp only [bndX] at ha
          split at ha
          · obtain ⟨y, h1, _⟩ := bind_some ha
            exact (slc_spec h1).1.1
          · cases ha
      · obtain ⟨y, h1, h2⟩ := bind_some hb
        obtain ⟨⟨q1, q2, q3⟩, rfl⟩ := slc_spec h1
        exact ⟨by omega, by omega, by omega, hK' _ _ _ h2 (by simp [toV])⟩
    · cases h
  · rename_i c l
    split at h
    · rename_i en he
      obtain ⟨e, n⟩ := en
      obtain ⟨e1, e2, rfl⟩ := elemC_spec he
      simp only [toV, sliceVC, e1, e2]
      refine ⟨rowsOK_lst c l, ?_⟩
      refine bndX_sound (fun a ha => ?_) h
      rw [List.length_map]
      have hb2 : bndVC (toSt ro m) hi _ _ := bndX_sound (Kn := fun h => a.toNat ≤ h ∧ h ≤ l.length ∧ K2p (.list ((List.take h (l.map (enc c))).drop a.toNat)) none) (fun b hb => ?_) ha
      · refine ⟨?_, hb2⟩
        rcases hi with _ | hi
        · simp only [bndX] at ha
          obtain ⟨y, h1, _⟩ := bind_some ha
          exact (slc_spec h1).1.1
        · simp only [bndX] at ha
          split at ha
          · obtain ⟨y, h1, _⟩ := bind_some ha
            exact (slc_spec h1).1.1
          · cases ha
      · obtain ⟨y, h1, h2⟩ := bind_some hb
        obtain ⟨⟨q1, q2, q3⟩, rfl⟩ := slc_spec h1
        exact ⟨by omega, by omega, by omega, hK' _ _ _ h2 (by simp [toV, List.map_drop, List.map_take])⟩
    · cases h
  · rename_i c l mx
    split at h
    · rename_i e n hi he
      obtain ⟨e1, e2, rfl⟩ := elemC_spec he
      simp only [toV, sliceVC, e1, e2]
      refine ⟨rowsOK_lst c l, ?_⟩
      refine bndX_sound (fun a ha => ?_) h
      rw [List.length_map]
      have h0 : 0 ≤ a := by
        simp only [bndX] at ha
        split at ha
        · split at ha
          · rcases brS ha with ⟨_, ha⟩ | ⟨_, ha⟩
            · obtain ⟨y, h1, _⟩ := bind_some ha
              exact (slc_spec h1).1.1
            · cases ha
          · cases ha
        · cases ha
      refine ⟨h0, bndX_sound (fun b hb => ?_) ha⟩
      have hb' := hb
      simp only [bndX] at hb
      split at hb
      · rename_i kk i hi'
        rcases brS hb with ⟨q0, hb⟩ | ⟨_, hb⟩
        · obtain ⟨y, h1, h2⟩ := bind_some hb
          obtain ⟨⟨q1, q2, q3⟩, rfl⟩ := slc_spec h1
          simp only [decide_eq_true_eq] at q0
          subst q0
          refine ⟨by omega, ?_⟩
          unfold bndVC
          simp only
          rw [← evalX_V, hi']
          simp only [toV]
          exact ⟨by omega, trivial, by omega, by omega, hK' _ _ _ h2 (by simp [toV, List.map_drop, List.map_take])⟩
        · cases hb
      · cases hb
    · cases h
  · cases h
theorem tblL_spec {c : C} {g n : Nat} : ∀ {k off : Nat} {l : List (den c)}, tblL c g n k off = some l → 0 < k → ∃ vs, GL g = some vs ∧ off + k * n ≤ vs.length ∧ chunkV n k ((vs.map constV).drop off) = l.map (enc c)
  | 0, _, _, _, h0 => absurd h0 (by omega)
  | k + 1, off, l, h, _ => by
    simp only [tblL] at h
    split at h
    · rename_i x l' h1 h2
      cases h
      obtain ⟨vs, q1, q2, q3⟩ := tblA_spec h1
      by_cases hk : 0 < k
      · obtain ⟨vs', r1, r2, r3⟩ := tblL_spec h2 hk
        rw [q1] at r1; cases r1
        refine ⟨vs, q1, by rw [Nat.add_mul]; omega, ?_⟩
        simp only [chunkV, List.map_cons, q3, List.drop_drop, r3]
      · obtain rfl : k = 0 := by omega
        simp only [tblL, Option.some.injEq] at h2
        subst h2
        refine ⟨vs, q1, by omega, ?_⟩
        simp only [chunkV, List.map_cons, q3, List.map_nil]
    · cases h
theorem gsliceX_sound {t : TypeId} {x : S} {lo hi mx : Option Operand} {dst : Option Nat} (hK : ∀ s tk, K2 s tk = some r → K2p (toV s) tk) (h : gsliceX P code ro m t x lo hi mx dst K2 = some r) :
    sliceVC P t (toSt ro m) (toV x) lo hi mx dst K2p := by
  unfold gsliceX at h
  split at h
  · rename_i g a
    split at h
    · rename_i len e hT
      split at h
      · rename_i n c hs hc
        obtain ⟨h1, h2⟩ := condS h
        simp only [Bool.and_eq_true] at h1
        obtain ⟨y, h3, h4⟩ := bind_some h2
        have hl0 : 0 < len := Nat.le_of_ble_eq_true h1.2
        obtain ⟨vs, q1, q2, q3⟩ := tblL_spec h3 hl0
        simp only [toV, q1, sliceVC, hT, hs]
        refine ⟨by simpa using q2, Nat.le_of_ble_eq_true h1.1.2, hl0, ?_⟩
        rw [q3]
        have := hK _ _ h4
        simpa only [toV] using this
      · cases h
    · cases h
  · exact sliceX_sound hK h
theorem faddrX_sound {s : TypeId} {i : Nat} {x : S} (hK : ∀ s, K s = some r → Kp (toV s)) (h : faddrX P s i x K = some r) : faddrVC P s i (toV x) Kp := by
  have hK' : ∀ s v, K s = some r → toV s = v → Kp v := fun s v h e => e ▸ hK s h
  unfold faddrX at h
  unfold faddrVC
  split at h
  · rename_i off t hf
    simp only [hf]
    split at h
    · rename_i n hs
      simp only [hs]
      cases hn : Nat.beq n 0 with
      | true => rw [hn] at h; cases h
      | false =>
        rw [hn] at h
        have hn' : n ≠ 0 := fun e => by subst e; cases hn
        simp only [cond_false] at h
        refine ⟨hn', ?_⟩
        split at h
        · simp only [toV]; exact hK' _ _ h (by simp [toV])
        · simp only [toV]; exact hK' _ _ h (by simp [toV])
        · rename_i g a
          split at h
          · rename_i vs hv
            simp only [toV, hv]
            exact hK' _ _ h (by simp [toV, hv])
          · cases h
        · cases h
    · cases h
  · cases h
end
end Go.X
