import Derived.Test.YtjcbpfhlgebgdaaE13D
set_option linter.unusedSimpArgs false
set_option linter.unusedVariables false
namespace Go.Eng
open Go.RowKit
def fullVC (P : Program) (ops : Array Oper) : Nat → Array Bool → St → (St → Prop) → Prop
  | 0, listed, st, K => Region.ready .any ops listed = [] ∧ K st
  | fuel + 1, listed, st, K => match Region.ready .any ops listed with
    | [] => K st
    | i :: is => match (i :: is).find? (canTake ops listed) with
      | some j => (match ops[j]? with
        | some o => takeVC P o st fun st' => fullVC P ops fuel (listed.setIfInBounds j true) st' K
        | none => False)
      | none => ∀ j ∈ i :: is, match ops[j]? with
        | some o => gdVC (ops.toList.map (·.dst)) st o.guard (opVC P false o st fun st' => fullVC P ops fuel (listed.setIfInBounds j true) st' K) (fullVC P ops fuel (listed.setIfInBounds j true) (st.put o.dst .un none) K)
        | none => False
section
variable {P : Program} {n' : Nat}
theorem fullVC_sound {ops : Array Oper} {K : St → Prop} (hall : ∀ (i : Nat) (o : Oper), ops[i]? = some o → dstOK n' o = true) (hns : Region.noSelect ops = true) {F : Fr} (hF : F.nt = n') {Q : Exit → Act → World → Prop} (hp : ∀ c a w, ¬ Q (.panic c) a w)
    (hn : ∀ st' a' w' pr' lam', K st' → SRel P F st' a' w' pr' lam' → Q .normal a' w') : ∀ (fuel : Nat) (listed : Array Bool) (st : St) (a : Act) (w : World) (pr : Nat → Nat → Prop) (lam : Nat → Option Nat),
      fullVC P ops fuel listed st K → SRel P F st a w pr lam → wpAny P .any ops Q fuel listed a w
  | 0, listed, st, a, w, pr, lam, h, hs => ⟨h.1, hn st a w pr lam h.2 hs⟩
  | fuel + 1, listed, st, a, w, pr, lam, h, hs => by
    unfold fullVC at h
    split at h
    · rename_i hr
      exact ⟨fun _ => hn st a w pr lam h hs, by rw [hr]; simp⟩
    · rename_i i is hr
      split at h
      · rename_i j hj
        have hm := List.mem_of_find?_eq_some hj
        have hc := List.find?_some hj
        split at h
        · rename_i o ho
          unfold canTake at hc
          rw [ho] at hc
          simp only [Bool.and_eq_true] at hc
          obtain ⟨v, st', hy, hk, hs'⟩ := takeVC_sound (ops := ops) (hall j o ho) hc.1 h hF hs
          refine wpAny_take ho hns hc.2 (by rw [hr]; simpa using hm) (fun c a w q => absurd q (hp c _ w)) hy ?_
          exact fullVC_sound hall hns hF hp hn fuel _ st' _ w pr lam hk hs'
        · exact h.elim
      · refine ⟨fun h0 => (by rw [hr] at h0; cases h0), fun j hj => ?_⟩
        rw [hr] at hj
        have h := h j hj
        unfold wpOp
        split at h
        · rename_i o ho
          rw [ho]
          have hd := hall j o ho
          rcases gdVC_iff.1 h with ⟨hg, h⟩ | ⟨hg, h⟩
          · simp only
            rw [wanted_of hs hg]
            simp only [if_true]
            left
            exact opVC_sound hd h F a w pr lam hF hs _ _ fun st' a' w' pr' lam' hk hs' => fullVC_sound hall hns hF hp hn fuel _ st' a' w' pr' lam' hk hs'
          · simp only
            rw [wanted_of hs hg]
            simp only [Bool.false_eq_true, if_false]
            exact fullVC_sound hall hns hF hp hn fuel _ _ _ w pr lam h (hs.putUn (by rw [hF]; exact dstOK_spec hd))
        · exact h.elim
theorem AWp.full (hm : P.follows .mixedOrders = true) {id : Nat} {ops : Array Oper} {st : St} {Q : Exit → St → Prop} (hall : ops.toList.all (dstOK n') = true) (hns : Region.noSelect ops = true)
    (h : fullVC P ops ops.size (Array.replicate ops.size false) st (Q .normal)) : AWp P n' (.region id ops true) st Q := by
  intro F a w pr lam hF hs
  have key : (Code.region id ops true).wp P (fun ex a' w' => ex = .normal ∧ ∃ st' pr' lam', Q .normal st' ∧ SRel P F st' a' w' pr' lam') a w := by
    refine wp_region_any hm ?_
    exact fullVC_sound (fun i o ho => List.all_eq_true.1 hall o (by simpa using Array.mem_of_getElem? ho)) hns hF (fun c a w q => by cases q.1) (fun st' a' w' pr' lam' k r => ⟨rfl, st', pr', lam', k, r⟩) _ _ st a _ pr lam h hs.drew
  refine wp_mono key ?_
  rintro ex a' w' ⟨rfl, q⟩
  exact q
end
end Go.Eng
