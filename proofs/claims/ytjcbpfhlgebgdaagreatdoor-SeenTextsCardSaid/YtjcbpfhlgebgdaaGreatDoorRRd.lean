import Derived.RangeFuncCalls
import Derived.RangeFuncRecord
import Derived.Deep.RegionHeld
set_option linter.unusedSimpArgs false
set_option linter.unusedVariables false
namespace Go.Seq
open Go.RowKit
def zpB (Q:Exit->Act->World->Prop):Exit->Act->World->Prop:=fun e a w=>e = .normal/\Q .normal a w
theorem zhM {Q:Exit->Act->World->Prop} (h:LetsOut (zpB Q)):False:=by
 obtain ⟨a,w,h1,_⟩:=h
 cases h1
theorem zhN {P:Program} {ops:Array Oper} {Q:Exit->Act->World->Prop} {l n:Nat} (hnd:∀ (i:Nat) (o:Oper),ops[i]? = some o->∀ c,o.op ≠ .defer c) :
  ∀ (is:List Nat) (a:Act) (w:World),wpOps P ops (zpB Q) is a w->wpOpsIn (Fence.wide.inRound l) n P ops Q is a w
 | [],a,w,h=>h.2
 | i :: rest,a,w,h=>by
  have ih:=zhN (P:=P) (Q:=Q) (l:=l) (n:=n) hnd rest
  simp only [wpOps] at h
  simp only [wpOpsIn]
  cases ho:ops[i]? with
  | none=>rw [ho] at h; exact ih _ _ h
  | some o =>
   rw [ho] at h
   dsimp only at h ⊢
   split at h
   case isFalse hw=>rw [if_neg hw]; exact ⟨fun _ _=>trivial,ih _ _ h⟩
   case isTrue hw =>
    rw [if_pos hw]
    rcases h with h | ⟨_,h⟩
    case inr=>exact (zhM h).elim
    refine ⟨fun _ _=>trivial,?_⟩
    rw [Oper.semAt_eq _ _ _ (hnd i o ho)]
    unfold Oper.wp at h
    generalize (execOp a.eval o).run P w = r at h
    cases r with
    | halt hh w' =>
     cases hh <;> first | exact h.elim | (exact absurd h.1 (by simp))
    | ok x w' =>
     cases x with
     | value v=>exact ih _ _ h
     | skip=>exact ih _ _ h
     | defer d=>exact ih _ _ h
     | enter f args =>
      refine ⟨(fun h0=>by cases h0),CallsIn.inRound l (callsIn_wide.2 (Calls.mono h ?_))⟩
      intro e w'' he
      cases e with
      | returned v=>exact ih _ _ he
      | panicked ch=>exact absurd he.1 (by simp)
      | outgrown=>exact (zhM he).elim
     | row row args =>
      refine ⟨(fun h0=>by cases h0),fun c cs hr=>?_⟩
      obtain ⟨v,w'',h1,h2⟩:=h c cs
      exact ⟨v,w'',ih _ _ h1,stepsIn_wide.2 h2⟩
     | _=>exact h.elim
theorem zaT {P:Program} {id:Nat} {ops:Array Oper} {Q:Exit->Act->World->Prop} {l n:Nat} {a:Act} {w:World} {S:World->Prop} (hm:P.follows .mixedOrders = true)
  (hnd:ops.all (fun o=>match o.op with | .defer _=>false | _=>true) = true) (hS:S w.drew) (h:S w.drew->wpAnyH P .any ops (zpB Q) S ops.size (Array.replicate ops.size false) a w.drew) :
  (Code.region id ops true).wpIn (Fence.wide.inRound l) n P Q a w :=
 wpIn_region_draw fun t=>by
  refine zhN (fun i o ho c hc=>?_) _ _ _ ?_
  ·have:=Array.all_eq_true'.1 hnd o (Array.mem_of_getElem? ho)
   rw [hc] at this
   cases this
  ·simp only [Region.schedule,hm,Bool.true_or,if_true]
   exact wpAny_sound ops.size t _ a _ (wpAny_of_held _ _ _ _ (h hS))
end Go.Seq
