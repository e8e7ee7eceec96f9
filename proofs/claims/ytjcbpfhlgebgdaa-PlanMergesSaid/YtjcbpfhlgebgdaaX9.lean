import Derived.Test.YtjcbpfhlgebgdaaX8
set_option linter.unusedSimpArgs false
set_option linter.unusedVariables false
namespace Go.X
open Go.Eng
open Go.RowKit
variable {β : Type}
section
variable {P : Program}
theorem initSl_get : ∀ (args : List S) (n s : Nat), (initSl n args).get s = if n ≤ s then (args[s - n]?).map (·, some (2000000, 0)) else none
  | [], n, s => by simp [initSl, T.get_nil]
  | a :: args, n, s => by
    simp only [initSl]
    rw [T.get_set, initSl_get args (n + 1) s]
    by_cases h : s = n
    · subst h; simp
    · rw [if_neg h]
      by_cases h1 : n + 1 ≤ s
      · rw [if_pos h1, if_pos (by omega)]
        have : s - n = s - (n + 1) + 1 := by omega
        rw [this, List.getElem?_cons_succ]
      · rw [if_neg h1, if_neg (by omega)]
theorem init_weak {F : Fr} {a : Act} {w : World} {pr : Nat → Nat → Prop} {lam : Nat → Option Nat} {args : List S} {ins : List SBox} (h : SRel P F (St.init (toVL args) (ins.map toBox)) a w pr lam) :
    SRel P F (toSt roTop ⟨initSl 0 args, ins.map some⟩) a w pr lam := by
  have hw := SRel.weak h (nb' := ins.length) (sl' := (toSt roTop ⟨initSl 0 args, ins.map some⟩).sl) (fun s => ?_)
  · refine (congrArg (fun st => SRel P F st a w pr lam) ?_).mp hw
    show (⟨ins.length, _, _⟩ : St) = toSt _ _
    unfold toSt
    congr 1
    · simp
    · funext i
      show (ins.map toBox)[i]? = (getB roTop ⟨initSl 0 args, ins.map some⟩ i).map toBox
      have : getB roTop ⟨initSl 0 args, ins.map some⟩ i = ((ins.map some)[i]?).getD none := rfl
      rw [this, List.getElem?_map, List.getElem?_map]
      cases ins[i]? <;> rfl
  · show Wk (pv (getS roTop ⟨initSl 0 args, ins.map some⟩ s)) ((toVL args).getD s .un, some (2000000, 0))
    have : getS roTop ⟨initSl 0 args, ins.map some⟩ s = ((initSl 0 args).get s).getD (.any, none) := rfl
    rw [this, initSl_get]
    simp only [Nat.zero_le, if_true, Nat.sub_zero]
    cases hq : args[s]? with
    | none => exact .inr (.inr (by simp [pv, toV]))
    | some x =>
      refine .inl ?_
      simp only [Option.map_some, Option.getD_some, pv, List.getD, toVL_get, hq]
theorem resX_spec {m : Mm} : ∀ {rs : List ResultVar} {vs : List S}, resX (P := P) m rs = some vs → resAll (toSt roTop m) P rs = some (toVL vs)
  | [], vs, h => by simp only [resX, Option.some.injEq] at h; subst h; simp [resAll, toVL]
  | r :: rs, vs, h => by
    simp only [resX] at h
    simp only [resAll]
    split at h
    · rename_i v vs' h1 h2
      cases h
      rw [resX_spec h2]
      have : resOne (toSt roTop m) P r = some (toV v) := by
        cases r with
        | tmp t =>
          simp only [Option.some.injEq] at h1
          subst h1; rfl
        | cell a t =>
          simp only at h1
          have he : (toSt roTop m).env a = toV (getS roTop m a).1 := rfl
          simp only [resOne]
          rw [he]
          split at h1
          · rename_i i off hl
            rw [hl]
            simp only [toV]
            split at h1
            · rename_i cs ty hB ha
              have hb : (toSt roTop m).box i = some ⟨toVL cs, ty⟩ := by show (getB roTop m i).map toBox = _; rw [hB]; rfl
              simp only [hb, ha]
              split at h1
              · rename_i n hn
                obtain ⟨q1, q2⟩ := condS h1
                simp only [Bool.and_eq_true] at q1
                cases q2
                simp only [hn]
                rw [if_pos ⟨bltS q1.1, by rw [toVL_length]; exact Nat.le_of_ble_eq_true q1.2⟩]
                simp [toV, toVL_seg]
              · cases h1
            · rename_i cs ty hB ha
              have hb : (toSt roTop m).box i = some ⟨toVL cs, ty⟩ := by show (getB roTop m i).map toBox = _; rw [hB]; rfl
              simp only [hb, ha]
              cases hq : Nat.blt ty 1000000000 with
              | false => rw [hq] at h1; cases h1
              | true =>
                rw [hq] at h1
                simp only [cond_true] at h1
                rw [if_pos (bltS hq), toVL_get, h1]; rfl
            · cases h1
          · cases h1
      rw [this]
      simp [toVL]
    · cases h
theorem outsX_spec {m : Mm} : ∀ {n i : Nat} {outs : List SBox}, outsX m i n = some outs → outs.length = n ∧ (∀ B ∈ outs, noLocB B = true) ∧ ∀ j B, outs[j]? = some B → getB roTop m (i + j) = some B
  | 0, i, outs, h => by
    simp only [outsX, Option.some.injEq] at h; subst h
    exact ⟨rfl, by simp, fun j B hj => by simp at hj⟩
  | n + 1, i, outs, h => by
    simp only [outsX] at h
    split at h
    · rename_i B bs h1 h2
      obtain ⟨q1, q2⟩ := condS h
      cases q2
      obtain ⟨a1, a2, a3⟩ := outsX_spec h2
      refine ⟨by simp [a1], fun B' hB' => ?_, fun j B' hj => ?_⟩
      · simp at hB'
        rcases hB' with rfl | hB'
        · exact q1
        · exact a2 B' hB'
      · cases j with
        | zero => simp at hj; subst hj; exact h1
        | succ j =>
          have := a3 j B' (by simpa using hj)
          rwa [show i + 1 + j = i + (j + 1) from by omega] at this
    · cases h
theorem fn_of_X {X : XCtx P} (hm : P.follows .mixedOrders = true) {f : FuncId} {fn : Func} {c : Code} {a : Ann} (hf : P.funcs[f]? = some fn) (hb : fn.body = some c) (hok : okX fn.ntmps c a = true) {args : List S} {ins : List SBox}
    (hsz : args.length ≤ fn.ntmps) {K : S → List SBox → Option β} {r : β} {vres : V} {vouts : List Box} (h : bodyX X fn.results.toList c a args ins K = some r)
    (hK : ∀ res outs, K res outs = some r → outs.length = ins.length → toV res = vres ∧ outs.map toBox = vouts) (hnl : vres.noLoc = true) (hno : ∀ B ∈ vouts, V.noLocL B.cells = true) (hl : vouts.length ≤ ins.length) :
    Go.Eng.Fn P f (toVL args) (ins.map toBox) vres vouts := by
  refine Fn.of_AWp hf hb (by rw [toVL_length]; exact hsz) hnl hno (by simpa using hl) ?_
  have hc := codeX_sound (X := X) hm c a roTop ⟨fun s => by simp [roTop, unTok, flatS], fun s t e h => (by cases h), fun _ s _ => .inr rfl, fun _ i B hi => (by cases hi)⟩ _ _ r (endQ P fn.results.toList vres vouts) hok ?_ h
  · intro F ac w pr lam hF hs
    exact hc F ac w pr lam hF (init_weak hs)
  · intro ex m' hk
    have key : (∃ vs outs, resX (P := P) m' fn.results.toList = some vs ∧ outsX m' 0 ins.length = some outs ∧ K (match vs with | [v] => v | vs => .tup vs) outs = some r) → resV (toSt roTop m') P fn.results.toList = some vres ∧ (∀ i B, vouts[i]? = some B → (toSt roTop m').box i = some B) := by
      rintro ⟨vs, outs, h1, h2, h3⟩
      obtain ⟨q1, q2, q3⟩ := outsX_spec h2
      obtain ⟨e1, e2⟩ := hK _ _ h3 q1
      refine ⟨?_, fun i B hB => ?_⟩
      · unfold resV
        rw [resX_spec h1, ← e1]
        match vs with
        | [] => simp [toVL, toV]
        | [v] => simp [toVL]
        | v :: w :: vs => simp [toVL, toV]
      · rw [← e2, List.getElem?_map] at hB
        cases ho : outs[i]? with
        | none => rw [ho] at hB; cases hB
        | some B' =>
          rw [ho] at hB
          cases hB
          show (getB roTop m' i).map toBox = _
          have := q3 i B' ho
          rw [Nat.zero_add] at this
          rw [this]; rfl
    have hk' : (ex = .ret ∨ ex = .normal) ∧ ∃ vs outs, resX (P := P) m' fn.results.toList = some vs ∧ outsX m' 0 ins.length = some outs ∧ K (match vs with | [v] => v | vs => .tup vs) outs = some r := by
      split at hk
      · rename_i v outs hex h1 h2
        obtain ⟨_, hk⟩ := condS hk
        refine ⟨?_, _, _, h1, h2, hk⟩
        cases ex <;> simp at hex ⊢
      · rename_i vs outs hne hex h1 h2
        obtain ⟨_, hk⟩ := condS hk
        refine ⟨?_, _, _, h1, h2, ?_⟩
        · cases ex <;> simp at hex ⊢
        · match vs, hne with
          | [], _ => exact hk
          | [v], hne => exact absurd rfl (hne v)
          | v :: w :: vs, _ => exact hk
      · cases hk
    obtain ⟨hex, hk'⟩ := hk'
    rcases hex with rfl | rfl
    · exact key hk'
    · exact key hk'
end
@[reducible] def tupC : List C → Type
  | [] => Unit
  | [c] => den c
  | c :: d :: cs => den c × tupC (d :: cs)
def unreflC : (cs : List C) → List S → Option (tupC cs)
  | [], [] => some ()
  | [c], [s] => unrefl c s
  | c :: d :: cs, s :: ss => (match unrefl c s, unreflC (d :: cs) ss with | some x, some y => some (x, y) | _, _ => none)
  | _, _ => none
def reflC : (cs : List C) → tupC cs → List S
  | [], _ => []
  | [c], x => [refl c x]
  | c :: d :: cs, x => refl c x.1 :: reflC (d :: cs) x.2
def encC : (cs : List C) → tupC cs → List V
  | [], _ => []
  | [c], x => [enc c x]
  | c :: d :: cs, x => enc c x.1 :: encC (d :: cs) x.2
theorem reflC_enc : ∀ (cs : List C) (x : tupC cs), toVL (reflC cs x) = encC cs x
  | [], _ => by simp [reflC, encC, toVL]
  | [c], x => by simp [reflC, encC, toVL, refl_enc]
  | c :: d :: cs, x => by simp [reflC, encC, toVL, refl_enc, reflC_enc (d :: cs) x.2]
theorem unreflC_enc : ∀ {cs : List C} {ss : List S} {x : tupC cs}, unreflC cs ss = some x → toVL ss = encC cs x
  | [], [], x, h => by simp [encC, toVL]
  | [], _ :: _, x, h => by simp [unreflC] at h
  | [c], [], x, h => by simp [unreflC] at h
  | [c], [s], x, h => by
    simp only [unreflC] at h
    simp [encC, toVL, unrefl_enc h]
  | [c], _ :: _ :: _, x, h => by simp [unreflC] at h
  | c :: d :: cs, [], x, h => by simp [unreflC] at h
  | c :: d :: cs, s :: ss, x, h => by
    simp only [unreflC] at h
    split at h
    · rename_i y z hy hz
      cases h
      simp [encC, toVL, unrefl_enc hy, unreflC_enc hz]
    · cases h
theorem reflC_noLoc : ∀ (cs : List C) (x : tupC cs), noLocSL (reflC cs x) = true
  | [], _ => rfl
  | [c], x => by simp [reflC, noLocSL, refl_noLocS]
  | c :: d :: cs, x => by simp [reflC, noLocSL, refl_noLocS, reflC_noLoc (d :: cs) x.2]
def resS (rs : List C) (x : tupC rs) : S := match reflC rs x with
  | [v] => v
  | vs => .tup vs
def resVt (rs : List C) (x : tupC rs) : V := toV (resS rs x)
def unreflR (rs : List C) (s : S) : Option (tupC rs) := match rs with
  | [c] => unrefl c s
  | rs => (match s with | .tup vs => unreflC rs vs | _ => none)
theorem unreflR_enc : ∀ {rs : List C} {s : S} {x : tupC rs}, unreflR rs s = some x → toV s = resVt rs x
  | [c], s, x, h => by
    simp only [unreflR] at h
    show toV s = toV (refl c x)
    rw [refl_enc]; exact unrefl_enc h
  | [], s, x, h => by
    simp only [unreflR] at h
    split at h
    · rename_i vs
      have e := unreflC_enc h
      simp only [toV, e, encC]
      show _ = toV (.tup [])
      simp [toV, toVL]
    · cases h
  | c :: d :: rs, s, x, h => by
    simp only [unreflR] at h
    split at h
    · rename_i vs
      have e := unreflC_enc h
      rw [← reflC_enc] at e
      have hq : resS (c :: d :: rs) x = .tup (reflC (c :: d :: rs) x) := by
        unfold resS
        cases rs <;> simp [reflC]
      unfold resVt
      rw [hq]
      simp only [toV, e]
    · cases h
theorem resS_noLoc (rs : List C) (x : tupC rs) : noLocS (resS rs x) = true := by
  unfold resS
  have h := reflC_noLoc rs x
  split
  · rename_i v e
    rw [e] at h
    simpa [noLocSL] using h
  · rename_i e; simpa [noLocS] using h
theorem resVt_noLoc (rs : List C) (x : tupC rs) : (resVt rs x).noLoc = true := noLocS_V _ (resS_noLoc rs x)
inductive AK where
  | d (c : C)
  | f (g : FuncId) (caps : List Nat)
  | l (i off : Nat)
  | m (g : FuncId)
  | e
def dataOf : List AK → List C
  | [] => []
  | .d c :: ak => c :: dataOf ak
  | _ :: ak => dataOf ak
def capsS : List Nat → List S
  | [] => []
  | i :: is => .loc i 0 :: capsS is
def buildA : List AK → List S → List S
  | [], _ => []
  | .d _ :: ak, s :: ss => s :: buildA ak ss
  | .d _ :: ak, [] => []
  | .f g caps :: ak, ss => .fn (.func g) [] (capsS caps) :: buildA ak ss
  | .l i off :: ak, ss => .loc i off :: buildA ak ss
  | .m g :: ak, ss => .fn (.func g) [.agg []] [] :: buildA ak ss
  | .e :: ak, ss => .agg [] :: buildA ak ss
def capsEq : List Nat → List S → Bool
  | [], [] => true
  | i :: is, .loc j o :: ss => Nat.beq i j && Nat.beq o 0 && capsEq is ss
  | _, _ => false
def matchA : List AK → List S → Option (List S)
  | [], [] => some []
  | .d _ :: ak, s :: ss => (match matchA ak ss with | some ds => some (s :: ds) | none => none)
  | .f g caps :: ak, .fn (.func g') [] cs :: ss => bif Nat.beq g g' && capsEq caps cs then matchA ak ss else none
  | .l i off :: ak, .loc i' off' :: ss => bif Nat.beq i i' && Nat.beq off off' then matchA ak ss else none
  | .m g :: ak, .fn (.func g') [.agg []] [] :: ss => bif Nat.beq g g' then matchA ak ss else none
  | .e :: ak, .agg [] :: ss => matchA ak ss
  | _, _ => none
theorem capsEq_spec : ∀ {is : List Nat} {ss : List S}, capsEq is ss = true → ss = capsS is
  | [], [], _ => rfl
  | [], _ :: _, h => by simp [capsEq] at h
  | _ :: _, [], h => by simp [capsEq] at h
  | i :: is, s :: ss, h => by
    cases s <;> simp only [capsEq, Bool.and_eq_true, Bool.false_eq_true] at h
    rename_i j o
    obtain ⟨⟨h1, h2⟩, h3⟩ := h
    rw [Nat.eq_of_beq_eq_true h1, Nat.eq_of_beq_eq_true h2, capsEq_spec h3]
    rfl
theorem matchA_spec : ∀ {ak : List AK} {ss ds : List S}, matchA ak ss = some ds → ss = buildA ak ds
  | [], [], ds, h => by simp only [matchA, Option.some.injEq] at h; subst h; rfl
  | [], _ :: _, ds, h => by simp [matchA] at h
  | .d c :: ak, [], ds, h => by simp [matchA] at h
  | .d c :: ak, s :: ss, ds, h => by
    simp only [matchA] at h
    split at h
    · rename_i ds' hd; cases h; simp only [buildA]; rw [← matchA_spec hd]
    · cases h
  | .f g caps :: ak, [], ds, h => by simp [matchA] at h
  | .l i off :: ak, [], ds, h => by simp [matchA] at h
  | .f g caps :: ak, s :: ss, ds, h => by
    cases s with
    | fn f first cap =>
      cases f with
      | func g' =>
        cases first with
        | nil =>
          simp only [matchA] at h
          obtain ⟨h1, h2⟩ := condS h
          simp only [Bool.and_eq_true] at h1
          simp only [buildA]
          rw [← matchA_spec h2, Nat.eq_of_beq_eq_true h1.1, capsEq_spec h1.2]
        | cons => simp [matchA] at h
      | _ => simp [matchA] at h
    | _ => simp [matchA] at h
  | .l i off :: ak, s :: ss, ds, h => by
    cases s with
    | loc i' off' =>
      simp only [matchA] at h
      obtain ⟨h1, h2⟩ := condS h
      simp only [Bool.and_eq_true] at h1
      simp only [buildA]
      rw [← matchA_spec h2, Nat.eq_of_beq_eq_true h1.1, Nat.eq_of_beq_eq_true h1.2]
    | _ => simp [matchA] at h
  | .m g :: ak, [], ds, h => by simp [matchA] at h
  | .e :: ak, [], ds, h => by simp [matchA] at h
  | .m g :: ak, s :: ss, ds, h => by
    unfold matchA at h
    split at h
    all_goals first | (simp at *; done) | skip
    · rename_i heq1 heq2
      cases heq1
      cases heq2
      obtain ⟨h1, h2⟩ := condS h
      simp only [buildA]
      rw [← matchA_spec h2, Nat.eq_of_beq_eq_true h1]
  | .e :: ak, s :: ss, ds, h => by
    unfold matchA at h
    split at h
    all_goals first | (simp at *; done) | skip
    · rename_i heq1 heq2
      cases heq1
      cases heq2
      simp only [buildA]
      rw [← matchA_spec h]
theorem buildA_le : ∀ (ak : List AK) (ss : List S), (buildA ak ss).length ≤ ak.length
  | [], _ => by simp [buildA]
  | .d c :: ak, [] => by simp [buildA]
  | .d c :: ak, s :: ss => by simp [buildA]; exact buildA_le ak ss
  | .f g caps :: ak, ss => by simp [buildA]; exact buildA_le ak ss
  | .l i o :: ak, ss => by simp [buildA]; exact buildA_le ak ss
  | .m g :: ak, ss => by simp [buildA]; exact buildA_le ak ss
  | .e :: ak, ss => by simp [buildA]; exact buildA_le ak ss
theorem buildA_congr : ∀ (ak : List AK) {ss ds : List S}, toVL ss = toVL ds → toVL (buildA ak ss) = toVL (buildA ak ds)
  | [], _, _, _ => rfl
  | .d c :: ak, [], [], _ => rfl
  | .d c :: ak, [], _ :: _, h => by simp [toVL] at h
  | .d c :: ak, _ :: _, [], h => by simp [toVL] at h
  | .d c :: ak, s :: ss, d :: ds, h => by
    simp only [toVL, List.cons.injEq] at h
    simp only [buildA, toVL, h.1, buildA_congr ak h.2]
  | .f g caps :: ak, ss, ds, h => by simp only [buildA, toVL, buildA_congr ak h]
  | .l i off :: ak, ss, ds, h => by simp only [buildA, toVL, buildA_congr ak h]
  | .m g :: ak, ss, ds, h => by simp only [buildA, toVL, buildA_congr ak h]
  | .e :: ak, ss, ds, h => by simp only [buildA, toVL, buildA_congr ak h]
abbrev BK := List (C × TypeId)
@[reducible] def bkC (b : BK) : List C := b.map (·.1)
def boxesS : (b : BK) → tupC (bkC b) → List SBox
  | [], _ => []
  | [c], x => [.cells (cellsS (refl c.1 x)) c.2]
  | c :: d :: b, x => .cells (cellsS (refl c.1 x.1)) c.2 :: boxesS (d :: b) x.2
def unbox1 (c : C) (ty : TypeId) : SBox → Option (den c)
  | .cells cs ty' => bif Nat.beq ty' ty then (match unrefl c (.agg cs) with
    | some y => some y
    | none => (match cs with
      | [.agg _] => none
      | [x] => unrefl c x
      | _ => none)) else none
  | _ => none
def unboxes : (b : BK) → List SBox → Option (tupC (bkC b))
  | [], [] => some ()
  | [c], [B] => unbox1 c.1 c.2 B
  | c :: d :: b, B :: Bs => (match unbox1 c.1 c.2 B, unboxes (d :: b) Bs with | some x, some y => some (x, y) | _, _ => none)
  | _, _ => none
theorem unbox1_spec {c : C} {ty : TypeId} {B : SBox} {x : den c} (h : unbox1 c ty B = some x) : toBox B = toBox (.cells (cellsS (refl c x)) ty) := by
  cases B with
  | map => cases h
  | cells cs ty' =>
    simp only [unbox1] at h
    obtain ⟨h1, h2⟩ := condS h
    have ht := Nat.eq_of_beq_eq_true h1
    subst ht
    simp only [toBox]
    congr 1
    rw [refl_cells]
    split at h2
    · rename_i y hy
      cases h2
      have := unrefl_enc hy
      simp only [toV] at this
      rw [← this]; rfl
    · split at h2
      · cases h2
      · rename_i z hz _
        have := unrefl_enc h2
        rw [← this]
        have hne : ∀ ds, z ≠ .agg ds := fun ds e => hz ds (by rw [e])
        have hcl : (toV z).cellsL = [toV z] := by
          cases z with
          | agg ds => exact absurd rfl (hne ds)
          | gel g o => simp only [toV]; split <;> rfl
          | ivd x => simp only [toV]; exact iv_cellsL x
          | _ => rfl
        rw [hcl]; simp [toVL]
      · cases h2
theorem unboxes_spec : ∀ {b : BK} {Bs : List SBox} {x : tupC (bkC b)}, unboxes b Bs = some x → Bs.map toBox = (boxesS b x).map toBox
  | [], [], x, h => rfl
  | [], _ :: _, x, h => by simp [unboxes] at h
  | [c], [], x, h => by simp [unboxes] at h
  | [c], [B], x, h => by
    simp only [unboxes] at h
    simp only [boxesS, List.map_cons, List.map_nil, unbox1_spec h]
  | [c], _ :: _ :: _, x, h => by simp [unboxes] at h
  | c :: d :: b, [], x, h => by simp [unboxes] at h
  | c :: d :: b, B :: Bs, x, h => by
    simp only [unboxes] at h
    split at h
    · rename_i y z hy hz
      cases h
      simp only [boxesS, List.map_cons, unbox1_spec hy]
      congr 1
      exact unboxes_spec hz
    · cases h
theorem boxesS_length : ∀ (b : BK) (x : tupC (bkC b)), (boxesS b x).length = b.length
  | [], _ => rfl
  | [c], _ => rfl
  | c :: d :: b, x => by simp [boxesS, boxesS_length (d :: b) x.2]
theorem cellsS_noLoc {s : S} (h : noLocS s = true) : noLocSL (cellsS s) = true := by
  cases s <;> simp_all [cellsS, noLocS, noLocSL]
theorem boxesS_noLoc : ∀ (b : BK) (x : tupC (bkC b)), ∀ B ∈ boxesS b x, noLocB B = true
  | [], _ => by simp [boxesS]
  | [c], x => by
    intro B hB
    simp [boxesS] at hB; subst hB
    exact cellsS_noLoc (refl_noLocS _ _)
  | c :: d :: b, x => by
    intro B hB
    simp only [boxesS, List.mem_cons] at hB
    rcases hB with rfl | hB
    · exact cellsS_noLoc (refl_noLocS _ _)
    · exact boxesS_noLoc (d :: b) x.2 B hB
def FnT (P : Program) (f : FuncId) (ak : List AK) (rs : List C) (g : tupC (dataOf ak) → Option (tupC rs)) : Prop :=
  ∀ x r, g x = some r → Go.Eng.Fn P f (toVL (buildA ak (reflC _ x))) [] (resVt rs r) []
def FnB (P : Program) (f : FuncId) (ak : List AK) (b : BK) (rs : List C) (g : tupC (dataOf ak) → tupC (bkC b) → Option (tupC rs × tupC (bkC b))) : Prop :=
  ∀ x y r y', g x y = some (r, y') → Go.Eng.Fn P f (toVL (buildA ak (reflC _ x))) ((boxesS b y).map toBox) (resVt rs r) ((boxesS b y').map toBox)
def XSpec.t {P : Program} (f : FuncId) (ak : List AK) (rs : List C) (g : tupC (dataOf ak) → Option (tupC rs)) (hgo : isGo P f = true) (h : FnT P f ak rs g) : XSpec P where
  f := f
  run := fun args ins K => match ins with
    | [] => (match matchA ak args with
      | some ds => (match unreflC (dataOf ak) ds with
        | some x => some ((g x).bind fun r => K (resS rs r) [])
        | none => none)
      | none => none)
    | _ => none
  sound := by
    intro β args ins K r hr
    split at hr
    · split at hr
      · rename_i ds hd
        split at hr
        · rename_i x hx
          simp only [Option.some.injEq] at hr
          obtain ⟨y, h1, h2⟩ := bind_some hr
          refine ⟨_, _, h2, hgo, ?_, resS_noLoc rs y, by simp, rfl⟩
          have hF := h x y h1
          have e := unreflC_enc hx
          rw [← reflC_enc] at e
          rw [← buildA_congr ak e, ← matchA_spec hd] at hF
          exact hF
        · cases hr
      · cases hr
    · cases hr
def XSpec.b {P : Program} (f : FuncId) (ak : List AK) (b : BK) (rs : List C) (g : tupC (dataOf ak) → tupC (bkC b) → Option (tupC rs × tupC (bkC b))) (hgo : isGo P f = true) (h : FnB P f ak b rs g) : XSpec P where
  f := f
  run := fun args ins K => match matchA ak args, unboxes b ins with
    | some ds, some y => (match unreflC (dataOf ak) ds with
        | some x => some ((g x y).bind fun r => K (resS rs r.1) (boxesS b r.2))
        | none => none)
    | _, _ => none
  sound := by
    intro β args ins K r hr
    split at hr
    · rename_i ds y hd hy
      split at hr
      · rename_i x hx
        simp only [Option.some.injEq] at hr
        obtain ⟨z, h1, h2⟩ := bind_some hr
        have hb := unboxes_spec hy
        refine ⟨_, _, h2, hgo, ?_, resS_noLoc rs _, boxesS_noLoc b _, ?_⟩
        · have hF := h x y z.1 z.2 h1
          have e := unreflC_enc hx
          rw [← reflC_enc] at e
          rw [← buildA_congr ak e, ← matchA_spec hd, ← hb] at hF
          exact hF
        · rw [boxesS_length, ← boxesS_length b y]
          have := congrArg List.length hb
          simpa using this.symm
      · cases hr
    · cases hr
theorem FnT.of {P : Program} {X : XCtx P} (hm : P.follows .mixedOrders = true) {f : FuncId} {fn : Func} {c : Code} {ak : List AK} {rs : List C} {g : tupC (dataOf ak) → Option (tupC rs)} (a : Ann)
    (hf : P.funcs[f]? = some fn) (hb : fn.body = some c) (hok : okX fn.ntmps c a = true) (hsz : ak.length ≤ fn.ntmps)
    (h : ∀ x, bodyX X fn.results.toList c a (buildA ak (reflC _ x)) [] (fun res _ => unreflR rs res) = g x) : FnT P f ak rs g := by
  intro x r hr
  exact fn_of_X (X := X) hm hf hb hok (Nat.le_trans (buildA_le _ _) hsz) ((h x).trans hr) (fun res outs hk ho => ⟨unreflR_enc hk, by
    have : outs = [] := List.eq_nil_of_length_eq_zero ho
    rw [this]; rfl⟩) (resVt_noLoc rs r) (by simp) (Nat.le_refl _)
theorem FnB.of {P : Program} {X : XCtx P} (hm : P.follows .mixedOrders = true) {f : FuncId} {fn : Func} {c : Code} {ak : List AK} {b : BK} {rs : List C} {g : tupC (dataOf ak) → tupC (bkC b) → Option (tupC rs × tupC (bkC b))} (a : Ann)
    (hf : P.funcs[f]? = some fn) (hb : fn.body = some c) (hok : okX fn.ntmps c a = true) (hsz : ak.length ≤ fn.ntmps)
    (h : ∀ x y, bodyX X fn.results.toList c a (buildA ak (reflC _ x)) (boxesS b y) (fun res outs => match unreflR rs res, unboxes b outs with | some r, some z => some (r, z) | _, _ => none) = g x y) : FnB P f ak b rs g := by
  intro x y r y' hr
  refine fn_of_X (X := X) hm hf hb hok (Nat.le_trans (buildA_le _ _) hsz) ((h x y).trans hr) (fun res outs hk ho => ?_) (resVt_noLoc rs r) ?_ (by simp [boxesS_length])
  · split at hk
    · rename_i r' z h1 h2
      cases hk
      exact ⟨unreflR_enc h1, unboxes_spec h2⟩
    · cases hk
  · intro B hB
    obtain ⟨B', hB', rfl⟩ := List.mem_map.1 hB
    exact noLocB_V (boxesS_noLoc b y' B' hB')
end Go.X
