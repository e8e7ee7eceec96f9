import Derived.Test.YtjcbpfhlgebgdaaE13
set_option linter.unusedSimpArgs false
set_option linter.unusedVariables false
namespace Go.Eng
open Go.RowKit
def takeOp (o : Oper) : Bool := match o.guard with
  | some _ => false
  | none => match o.op with
    | .move _ => true
    | .binOp .add _ _ _ _ => true
    | .binOp .sub _ _ _ _ => true
    | .indexAddr _ _ _ => true
    | .slice _ _ _ _ none => true
    | _ => false
def readOp (o : Oper) : Bool := match o.guard with
  | some _ => false
  | none => match o.op with
    | .load _ _ => true
    | _ => false
def pairOK (ops : Array Oper) (listed : Array Bool) (i j : Nat) : Bool := match ops[i]?, ops[j]? with
  | some a, some b => readOp a && readOp b && a.apart ops b && (Region.ready .any ops (listed.setIfInBounds i true) == [j]) && (Region.ready .any ops (listed.setIfInBounds j true) == [i])
  | _, _ => false
def canTake (ops : Array Oper) (listed : Array Bool) (i : Nat) : Bool := (match ops[i]? with | some o => takeOp o | none => false) && Region.free .any ops listed i
def schedL (ops : Array Oper) : Nat → Array Bool → Option (List (Nat × Nat))
  | 0, listed => match Region.ready .any ops listed with
    | [] => some []
    | _ => none
  | fuel + 1, listed => match Region.ready .any ops listed with
    | [] => some []
    | i :: is => match is with
      | [] => (match schedL ops fuel (listed.setIfInBounds i true) with | some l => some ((i, 0) :: l) | none => none)
      | k :: ks => (match (i :: k :: ks).find? (canTake ops listed) with
        | some j => (match schedL ops fuel (listed.setIfInBounds j true) with | some l => some ((j, 1) :: l) | none => none)
        | none => (match ks, fuel with
          | [], fuel' + 1 => bif pairOK ops listed i k then (match schedL ops fuel' ((listed.setIfInBounds i true).setIfInBounds k true) with | some l => some ((i, k + 2) :: l) | none => none) else none
          | _, _ => none))
def takeVC (P : Program) (o : Oper) (st : St) (K : St → Prop) : Prop := match o.op with
  | .move x => K (st.put o.dst (st.eval x) (st.tokOf x))
  | .binOp .add _ x y _ => (match st.eval x, st.eval y with
    | .int k a, .int k' b => k = k' ∧ InR k (a + b) ∧ K (st.put o.dst (.int k (a + b)) none)
    | _, _ => False)
  | .binOp .sub _ x y _ => (match st.eval x, st.eval y with
    | .int k a, .int k' b => k = k' ∧ InR k (a - b) ∧ K (st.put o.dst (.int k (a - b)) none)
    | _, _ => False)
  | .indexAddr t x i => (match st.eval x, st.eval i with
    | .list rows, .int _ i => (match sliceT P t with
      | some e => (match sizeT P e with
        | some n => rowsOK n rows ∧ (0 ≤ i ∧ i < rows.length) ∧ K (st.put o.dst (.elt (rows.getD i.toNat .any).cellsL 0) none)
        | none => False)
      | none => False)
    | _, _ => False)
  | .slice t x lo hi none => (match st.eval x with
    | .list rows => sliceVC P t st (.list rows) lo hi none o.dst fun v tk => K (st.put o.dst v tk)
    | _ => False)
  | _ => False
theorem run_slice_list {P : Program} {o : Oper} {a : Act} {w : World} {pr : Nat → Nat → Prop} {lam : Nat → Option Nat} {ρ : Operand → V} (hop : ∀ x, R ⟨w, pr, lam⟩ (ρ x) (a.eval x)) {t e : TypeId} {x : Operand} {lo hi : Option Operand} {rows : List V} {l h n : Nat} (ho : o.op = .slice t x lo hi none) (hx : ρ x = .list rows)
    (ht : P.underlying t = some (.slice e)) (hs : sizeT P e = some n) (hrows : rowsOK n rows) (hl : bndV ρ lo 0 = some l) (hh : bndV ρ hi rows.length = some h) (hlh : l ≤ h) (hhl : h ≤ rows.length) :
    ∃ v, (∀ w', (execOp a.eval o).run P w' = .ok (.value v) w') ∧ R ⟨w, pr, lam⟩ (.list ((rows.take h).drop l)) v := by
  have q1 := hop x
  rw [hx] at q1
  simp only [R] at q1
  obtain ⟨base, cap, e1, hc, hm, hb⟩ := q1
  have hb1 : ∀ w', (match lo.map a.eval with | some v => Instr.sliceBound v h .sliceB | none => Pure.pure 0).run P w' = .ok l w' := fun w' => by
    cases lo with
    | none => simp only [bndV, Option.some.injEq] at hl; subst hl; simp
    | some y =>
      obtain ⟨k, i, hy, h0, hn⟩ := bndV_some hl
      have q := hop y
      rw [hy] at q; simp only [R] at q
      exact run_sliceBound q h0 hn hlh _ w'
  have hb2 : ∀ w', (match hi.map a.eval with | some v => Instr.sliceBound v cap .sliceAcap | none => Pure.pure rows.length).run P w' = .ok h w' := fun w' => by
    cases hi with
    | none => simp only [bndV, Option.some.injEq] at hh; subst hh; simp
    | some y =>
      obtain ⟨k, i, hy, h0, hn⟩ := bndV_some hh
      have q := hop y
      rw [hy] at q; simp only [R] at q
      exact run_sliceBound q h0 hn (Nat.le_trans hhl hc) _ w'
  have hbs : ∀ w', (Instr.sliceBounds true rows.length cap (lo.map a.eval) (hi.map a.eval) none).run P w' = .ok (l, h, cap) w' := fun w' => by
    have hb1 := hb1 w'
    have hb2 := hb2 w'
    cases lo <;> cases hi <;> simp only [Option.map_some, Option.map_none, Sem.run_pure, Result.ok.injEq, and_true] at hb1 hb2 <;>
      simp [Instr.sliceBounds, hb1, hb2]
  refine ⟨.slice (if cap = l then base else base.map (·.add (l * n))) (h - l) (cap - l), fun w' => ?_, ?_⟩
  · have hbs := hbs w'
    simp only [execOp, ho, e1]
    simp [Instr.sliceAt, run_underlying ht, Instr.slice, hbs, run_sizeOf hs]
  · simp only [R]
    have hlen : ((rows.take h).drop l).length = h - l := by simp; omega
    refine ⟨_, cap - l, by rw [hlen], by rw [hlen]; omega, by omega, ?_⟩
    rcases hb with ⟨rfl, rfl⟩ | ⟨b, o', k, rfl, hb⟩
    · left
      simp at hhl; subst hhl
      simp at hlh; subst hlh
      simp
    · right
      by_cases hcl : cap = l
      · have : (rows.take h).drop l = [] := by
          apply List.eq_nil_of_length_eq_zero
          rw [hlen]; omega
        rw [this, if_pos hcl]
        exact ⟨b, o', k, rfl, by simp [RR]⟩
      · rw [if_neg hcl]
        refine ⟨b, o' + l * n, k, by simp [Addr.add_none], ?_⟩
        rcases rows with _ | ⟨r, rs⟩
        · simp [RR]
        · obtain rfl := hb.size hrows (r := r) (by simp)
          exact hb.slice
def pairVC (P : Program) (o o' : Oper) (st : St) (K : St → Prop) : Prop := match o.op, o'.op with
  | .load t x, .load t' x' => loadVC P t st.box (st.eval x) fun v => loadVC P t' st.box (st.eval x') fun u => K ((st.put o.dst v none).put o'.dst u none)
  | _, _ => False
def schVC (P : Program) (ops : Array Oper) : List (Nat × Nat) → St → (St → Prop) → Prop
  | [], st, K => K st
  | (i, t) :: l, st, K => match ops[i]? with
    | none => False
    | some o => match t with
      | 1 => takeVC P o st fun st' => schVC P ops l st' K
      | k + 2 => (match ops[k]? with
        | some o' => pairVC P o o' st fun st' => schVC P ops l st' K
        | none => False)
      | 0 => gdVC (ops.toList.map (·.dst)) st o.guard (opVC P false o st fun st' => schVC P ops l st' K) (schVC P ops l (st.put o.dst .un none) K)
section
variable {P : Program} {n' : Nat}
theorem takeVC_sound {ops : Array Oper} {o : Oper} {st : St} {K : St → Prop} (hd : dstOK n' o = true) (ht : takeOp o = true) (h : takeVC P o st K) {F : Fr} {a : Act} {w : World} {pr : Nat → Nat → Prop} {lam : Nat → Option Nat}
    (hF : F.nt = n') (hs : SRel P F st a w pr lam) : ∃ v st', Yields P ops o v a ∧ K st' ∧ SRel P F st' (a.put o.dst v) w pr lam := by
  have hd' := dstOK_spec hd
  subst hF
  have hg : o.guard = none := by
    unfold takeOp at ht
    split at ht
    · cases ht
    · assumption
  have hw : Region.wanted o (yielded ops a.tmps) = true := by unfold Region.wanted; rw [hg]
  unfold takeVC at h
  split at h
  · rename_i x ho
    have hr : ∀ w, (execOp a.eval o).run P w = .ok (.value (a.eval x)) w := fun w => by simp [execOp, ho]
    refine ⟨a.eval x, _, .inl ⟨hw, hr⟩, h, hs.put hd' (hs.eval x) ?_⟩
    cases x with
    | tmp s =>
      simp only [St.tokOf]
      cases hq : st.tok s with
      | none => trivial
      | some te =>
        obtain ⟨t, e⟩ := te
        exact ⟨hs.own s t e hq, fun s' t' e' g hs' h1 h2 => hs.coh s s' t t' e e' g hq hs' h2 h1, fun i B b hB hl => hs.apart i B b s t e hB hl hq, fun s' e' hs' hc => hs.coh2 s' s t e' e hs' hq hc, fun hc => hs.old s t e hq hc,
          fun s' e' b o g hs' h1 h2 => hs.ptr s' s t e' e b o g hs' hq h1 h2, fun s' u e' b o g hu hs' h1 h2 => hs.ptr s s' u e e' b o g (hu ▸ hq) hs' h1 h2⟩
    | const v => trivial
    | global g => trivial
    | func f => trivial
  · rename_i xT x y yT ho
    split at h
    · rename_i k c k' b hx hy
      obtain ⟨rfl, hin, h⟩ := h
      have h1 := hs.eval x
      have h2 := hs.eval y
      rw [hx] at h1
      rw [hy] at h2
      simp only [R] at h1 h2
      have hin' : k.wrap (c + b) = c + b := hin
      have hr : ∀ w, (execOp a.eval o).run P w = .ok (.value (.int k (c + b))) w := fun w => by
        simp [execOp, ho, h1, h2, eqGuard, binOp, Op.intArith, Op.intCmp, hin']
      exact ⟨_, _, .inl ⟨hw, hr⟩, h, hs.put hd' (by simp [R]) trivial⟩
    · exact h.elim
  · rename_i xT x y yT ho
    split at h
    · rename_i k c k' b hx hy
      obtain ⟨rfl, hin, h⟩ := h
      have h1 := hs.eval x
      have h2 := hs.eval y
      rw [hx] at h1
      rw [hy] at h2
      simp only [R] at h1 h2
      have hin' : k.wrap (c - b) = c - b := hin
      have hr : ∀ w, (execOp a.eval o).run P w = .ok (.value (.int k (c - b))) w := fun w => by
        simp [execOp, ho, h1, h2, eqGuard, binOp, Op.intArith, Op.intCmp, hin']
      exact ⟨_, _, .inl ⟨hw, hr⟩, h, hs.put hd' (by simp [R]) trivial⟩
    · exact h.elim
  · rename_i t x ix ho
    split at h
    case h_2 => exact h.elim
    rename_i rows k i hx hi
    split at h
    case h_2 => exact h.elim
    rename_i e ht
    split at h
    case h_2 => exact h.elim
    rename_i n hn
    obtain ⟨hrows, ⟨h0, h1⟩, h⟩ := h
    have q1 := hs.eval x
    have q2 := hs.eval ix
    rw [hx] at q1
    rw [hi] at q2
    simp only [R] at q1 q2
    obtain ⟨base, cap, e1, hc, hm, hb⟩ := q1
    have hlt : i.toNat < rows.length := by omega
    obtain ⟨r, hr⟩ : ∃ r, rows[i.toNat]? = some r := ⟨_, List.getElem?_eq_getElem hlt⟩
    rcases hb with ⟨hb, _⟩ | ⟨b, o', k', rfl, hb⟩
    · subst hb; simp at hlt
    · have hmem : r ∈ rows := List.mem_of_getElem? hr
      obtain rfl := hb.size hrows hmem
      obtain ⟨y, p1, p2, p3⟩ := hb.get _ r hr
      have hcond : 0 ≤ i ∧ i < (rows.length : Int) := ⟨h0, h1⟩
      have hrun : ∀ w, (execOp a.eval o).run P w = .ok (.value (.pointer (some ⟨b, o' + i.toNat * k', none⟩))) w := fun w => by
        simp only [execOp, ho, e1, q2]
        simp [Instr.indexAt, asIntOf, run_underlying (sliceT_spec ht), hcond, run_sizeOf hn, Addr.add_none]
      refine ⟨_, _, .inl ⟨hw, hrun⟩, h, hs.put hd' ?_ trivial⟩
      have hget : rows.getD i.toNat .any = r := by rw [List.getD_eq_getElem?_getD, hr]; rfl
      rw [hget]
      simp only [R]
      exact ⟨b, o' + i.toNat * k', rfl, elt_of_row (k := k') p1 (hrows r hmem) p3⟩
  · rename_i t x lo hi ho
    split at h
    case h_2 => exact h.elim
    rename_i rows hx
    simp only [sliceVC] at h
    split at h
    case h_2 => exact h.elim
    rename_i e hT
    split at h
    case h_2 => exact h.elim
    rename_i n hsz
    obtain ⟨hr, h⟩ := h
    obtain ⟨l, hl, h⟩ := bndVC_spec h
    obtain ⟨hh, hl2, h1, h2, h3⟩ := bndVC_spec h
    obtain ⟨v, q1, q2⟩ := run_slice_list (ρ := st.eval) (fun x => hs.eval x) ho hx (sliceT_spec hT) hsz hr hl hl2 h1 h2
    exact ⟨v, _, .inl ⟨hw, q1⟩, h3, hs.put hd' q2 trivial⟩
  · exact h.elim
theorem pairVC_sound {o o' : Oper} {st : St} {K : St → Prop} (h : pairVC P o o' st K) : ∃ v u, QV P o st.eval st.box v none ∧ QV P o' st.eval st.box u none ∧ K ((st.put o.dst v none).put o'.dst u none) := by
  unfold pairVC at h
  split at h
  · rename_i t x t' x' h1 h2
    obtain ⟨v, q1, h⟩ := loadVC_sound h1 h
    obtain ⟨u, q2, h⟩ := loadVC_sound h2 h
    exact ⟨v, u, q1, q2, h⟩
  · exact h.elim
theorem schVC_sound {ops : Array Oper} {K : St → Prop} (hall : ∀ (i : Nat) (o : Oper), ops[i]? = some o → dstOK n' o = true) (hns : Region.noSelect ops = true) {F : Fr} (hF : F.nt = n') {Q : Exit → Act → World → Prop} (hp : ∀ c a w, ¬ Q (.panic c) a w)
    (hn : ∀ st' a' w' pr' lam', K st' → SRel P F st' a' w' pr' lam' → Q .normal a' w') : ∀ (fuel : Nat) (listed : Array Bool) (l : List (Nat × Nat)) (st : St) (a : Act) (w : World) (pr : Nat → Nat → Prop) (lam : Nat → Option Nat),
      schedL ops fuel listed = some l → schVC P ops l st K → SRel P F st a w pr lam → wpAny P .any ops Q fuel listed a w
  | 0, listed, l, st, a, w, pr, lam, hl, h, hs => by
    unfold schedL at hl
    split at hl
    · rename_i hr; cases hl; exact ⟨hr, hn st a w pr lam h hs⟩
    · cases hl
  | fuel + 1, listed, l, st, a, w, pr, lam, hl, h, hs => by
    unfold schedL at hl
    split at hl
    · rename_i hr; cases hl
      exact ⟨fun _ => hn st a w pr lam h hs, by rw [hr]; simp⟩
    · rename_i i is hr
      split at hl
      · split at hl
        · rename_i l' hl'
          cases hl
          refine ⟨fun h0 => (by rw [hr] at h0; cases h0), fun j hj => ?_⟩
          rw [hr, List.mem_singleton] at hj
          subst hj
          simp only [schVC] at h
          unfold wpOp
          split at h
          · exact h.elim
          · rename_i o ho
            rw [ho]
            have hd := hall j o ho
            rcases gdVC_iff.1 h with ⟨hg, h⟩ | ⟨hg, h⟩
            · simp only
              rw [wanted_of hs hg]
              simp only [if_true]
              left
              exact opVC_sound hd h F a w pr lam hF hs _ _ fun st' a' w' pr' lam' hk hs' => schVC_sound hall hns hF hp hn fuel _ l' st' a' w' pr' lam' hl' hk hs'
            · simp only
              rw [wanted_of hs hg]
              simp only [Bool.false_eq_true, if_false]
              exact schVC_sound hall hns hF hp hn fuel _ l' _ _ w pr lam hl' h (hs.putUn (by rw [hF]; exact dstOK_spec hd))
        · cases hl
      · rename_i k ks
        split at hl
        · rename_i j hj
          split at hl
          · rename_i l' hl'
            cases hl
            have hm := List.mem_of_find?_eq_some hj
            have hc := List.find?_some hj
            simp only [schVC] at h
            split at h
            · exact h.elim
            · rename_i o ho
              unfold canTake at hc
              rw [ho] at hc
              simp only [Bool.and_eq_true] at hc
              obtain ⟨v, st', hy, hk, hs'⟩ := takeVC_sound (ops := ops) (hall j o ho) hc.1 h hF hs
              refine wpAny_take ho hns hc.2 (by rw [hr]; simpa using hm) (fun c a w q => absurd q (hp c _ w)) hy ?_
              exact schVC_sound hall hns hF hp hn fuel _ l' st' _ w pr lam hl' hk hs'
          · cases hl
        · split at hl
          case h_2 => cases hl
          rename_i fuel' hfind
          cases hpq : pairOK ops listed i k with
          | false => rw [hpq] at hl; cases hl
          | true =>
            rw [hpq] at hl
            simp only [cond_true] at hl
            split at hl
            case h_2 => cases hl
            rename_i l' hl'
            cases hl
            unfold pairOK at hpq
            split at hpq
            case h_2 => cases hpq
            rename_i oi oj hoi hoj
            simp only [Bool.and_eq_true, beq_iff_eq] at hpq
            obtain ⟨⟨⟨⟨r1, r2⟩, hap⟩, ri⟩, rj⟩ := hpq
            have hne : i ≠ k := by
              rintro rfl
              have : i ∈ Region.ready .any ops (listed.setIfInBounds i true) := by rw [ri]; simp
              have h0 := (mem_ready.1 this).1
              rw [getD_set_self] at h0
              cases h0
            simp only [schVC, hoi, hoj] at h
            obtain ⟨p1, p2, p3⟩ := Oper.apart_spec hap
            have gi : oi.guard = none := by
              unfold readOp at r1; split at r1
              · cases r1
              · assumption
            have gj : oj.guard = none := by
              unfold readOp at r2; split at r2
              · cases r2
              · assumption
            obtain ⟨v, u, qi, qj, hk⟩ := pairVC_sound h
            have hdi := dstOK_spec (hall i oi hoi)
            have hdj := dstOK_spec (hall k oj hoj)
            have wn : ∀ (o : Oper) (a : Act), o.guard = none → Region.wanted o (yielded ops a.tmps) = true := fun o a hg => by unfold Region.wanted; rw [hg]
            refine ⟨fun h0 => (by rw [hr] at h0; cases h0), fun j hj => ?_⟩
            rw [hr] at hj
            have hj' : j = i ∨ j = k := by simpa using hj
            rcases hj' with rfl | rfl
            · unfold wpOp
              rw [hoi]
              simp only [wn oi a gi, if_true]
              left
              refine opok_quiet (K := fun st' => st' = st.put oi.dst v none) qi (tk := none) (fun _ _ h => by cases h) hdi rfl F a w pr lam hF hs _ _ ?_
              rintro st' a' w' pr' lam' rfl hs'
              refine ⟨fun h0 => (by rw [ri] at h0; cases h0), fun j' hj' => ?_⟩
              rw [ri, List.mem_singleton] at hj'
              subst hj'
              unfold wpOp
              rw [hoj]
              simp only [wn oj a' gj, if_true]
              left
              have qj' : QV P oj (st.put oi.dst v none).eval (st.put oi.dst v none).box u none := by
                have hb : (st.put oi.dst v none).box = st.box := by cases oi.dst <;> rfl
                rw [hb]
                exact QV.congr qj fun x hx => ((put_eval (st := st) (v := v) (tk := none) (ops := ops) p1).1 x hx).1
              refine opok_quiet (K := fun st' => st' = (st.put oi.dst v none).put oj.dst u none) qj' (tk := none) (fun _ _ h => by cases h) hdj rfl F a' w' pr' lam' hF hs' _ _ ?_
              rintro st'' a'' w'' pr'' lam'' rfl hs''
              exact schVC_sound hall hns hF hp hn fuel' _ l' _ a'' w'' pr'' lam'' hl' hk hs''
            · unfold wpOp
              rw [hoj]
              simp only [wn oj a gj, if_true]
              left
              refine opok_quiet (K := fun st' => st' = st.put oj.dst u none) qj (tk := none) (fun _ _ h => by cases h) hdj rfl F a w pr lam hF hs _ _ ?_
              rintro st' a' w' pr' lam' rfl hs'
              refine ⟨fun h0 => (by rw [rj] at h0; cases h0), fun j' hj' => ?_⟩
              rw [rj, List.mem_singleton] at hj'
              subst hj'
              unfold wpOp
              rw [hoi]
              simp only [wn oi a' gi, if_true]
              left
              have qi' : QV P oi (st.put oj.dst u none).eval (st.put oj.dst u none).box v none := by
                have hb : (st.put oj.dst u none).box = st.box := by cases oj.dst <;> rfl
                rw [hb]
                exact QV.congr qi fun x hx => ((put_eval (st := st) (v := u) (tk := none) (ops := ops) p3).1 x hx).1
              refine opok_quiet (K := fun st' => st' = (st.put oj.dst u none).put oi.dst v none) qi' (tk := none) (fun _ _ h => by cases h) hdi rfl F a' w' pr' lam' hF hs' _ _ ?_
              rintro st'' a'' w'' pr'' lam'' rfl hs''
              rw [Array.setIfInBounds_comm _ _ (Ne.symm hne)]
              refine schVC_sound hall hns hF hp hn fuel' _ l' _ a'' w'' pr'' lam'' hl' hk ?_
              rwa [put_comm st v u none none p2]
def schedR (ops : Array Oper) : Option (List (Nat × Nat)) := schedL ops ops.size (Array.replicate ops.size false)
theorem AWp.sched (hm : P.follows .mixedOrders = true) {id : Nat} {ops : Array Oper} {st : St} {Q : Exit → St → Prop} {l : List (Nat × Nat)} (hall : ops.toList.all (dstOK n') = true) (hns : Region.noSelect ops = true) (hl : schedR ops = some l)
    (h : schVC P ops l st (Q .normal)) : AWp P n' (.region id ops true) st Q := by
  intro F a w pr lam hF hs
  have key : (Code.region id ops true).wp P (fun ex a' w' => ex = .normal ∧ ∃ st' pr' lam', Q .normal st' ∧ SRel P F st' a' w' pr' lam') a w := by
    refine wp_region_any hm ?_
    exact schVC_sound (fun i o ho => List.all_eq_true.1 hall o (by simpa using Array.mem_of_getElem? ho)) hns hF (fun c a w q => by cases q.1) (fun st' a' w' pr' lam' k r => ⟨rfl, st', pr', lam', k, r⟩) _ _ l st a _ pr lam hl h hs.drew
  refine wp_mono key ?_
  rintro ex a' w' ⟨rfl, q⟩
  exact q
end
end Go.Eng
