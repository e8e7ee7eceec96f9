import Derived.Test.YtjcbpfhlgebgdaaDoorR23
noncomputable section
namespace Go.Run
open Go.RowKit
def AllF (P:Program):Nat→Nat→T Func→Prop
 | _,_,.nil=>True
 | b,s,.node l v r=>(match v with | some f=>P.funcs[b]? = some f | none=>True)∧AllF P (b + s) (2 * s) l∧AllF P (b + 2 * s) (2 * s) r
def chkF:T Func→Bool
 | .nil=>true
 | .node l v r => (match v with | some f => f.body.isSome && !(f.name == "runtime.NumGoroutine") | none => true) && chkF l && chkF r
theorem AllF_get {P : Program} : ∀ (t : T Func) (b s : Nat), AllF P b s t → chkF t = true → ∀ (n : Nat) (fn : Func), t.get n = some fn → P.funcs[b + s * n]? = some fn ∧ fn.body.isSome = true ∧ fn.name ≠ "runtime.NumGoroutine"
 | .nil,_,_,_,_,n,fn,h=>by simp [T.get_nil] at h
 | .node l v r,b,s,ha,hc,n,fn,h=>by
  obtain ⟨h1,h2,h3⟩:=ha
  simp only [chkF,Bool.and_eq_true] at hc
  obtain ⟨⟨c1,c2⟩,c3⟩:=hc
  rw [T.get_node] at h
  by_cases hn:n = 0
  ·rw [if_pos hn] at h
   subst hn
   subst h
   simp only [Bool.and_eq_true,Bool.not_eq_true',beq_eq_false_iff_ne] at c1
   exact ⟨by simpa using h1,c1.1,c1.2⟩
  ·rw [if_neg hn] at h
   by_cases ho:n % 2 = 1
   ·rw [if_pos ho] at h
    have:=AllF_get l _ _ h2 c2 _ _ h
    have e:b + s + 2 * s * (n / 2) = b + s * n:=by
     have e1:n = 2 * (n / 2) + 1:=by omega
     generalize n / 2 = k at e1 ⊢
     subst e1
     rw [Nat.mul_add,Nat.mul_one,← Nat.mul_assoc,Nat.mul_comm s 2]; omega
    rw [e] at this
    exact this
   ·rw [if_neg ho] at h
    have:=AllF_get r _ _ h3 c3 _ _ h
    have e:b + 2 * s + 2 * s * (n / 2 - 1) = b + s * n:=by
     have e1:n = 2 * (n / 2 - 1) + 2:=by omega
     generalize n / 2 - 1 = k at e1 ⊢
     subst e1
     rw [Nat.mul_add,← Nat.mul_assoc,Nat.mul_comm s 2]; omega
    rw [e] at this
    exact this
theorem FunOK_of {P:Program} {F:T Func} (h:AllF P 0 1 F) (hc:chkF F = true):FunOK P F:=fun f fn hf=>by
 have:=AllF_get F 0 1 h hc f fn hf
 simpa using this
theorem globOK_nil {G:Nat} {w0:World}:GlobOK G w0 .nil:=fun b o h=>by simp [T.get_nil] at h
end Go.Run
