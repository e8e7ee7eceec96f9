import Derived.Test.YtjcbpfhlgebgdaaDoorXKp
import Derived.Test.YtjcbpfhlgebgdaaDoorP22v
import Derived.Test.YtjcbpfhlgebgdaaDoorXL
set_option linter.unusedSimpArgs false
set_option linter.unusedVariables false
namespace Go.Proofs.YtjcbpfhlgebgdaaDoor
open Go Go.Eng Go.RowKit Go.X Go.Seq
def rdF:List UInt8→Nat→Int→Int × Nat × List UInt8
 | [],n,v=>(v,n,[])
 | c :: l,n,v=>if 48 ≤ c.toNat∧c.toNat ≤ 57∧n ≤ 13 then rdF l (n + 1) (IntKind.u64.wrap (IntKind.u64.wrap (10 * v) + ((c.toNat:Int) - 48))) else (v,n,c :: l)
theorem rdF_go {c:UInt8} {l:List UInt8} {n:Nat} {v:Int} (h:48 ≤ c.toNat∧c.toNat ≤ 57∧n ≤ 13):rdF (c :: l) n v = rdF l (n + 1) (IntKind.u64.wrap (IntKind.u64.wrap (10 * v) + ((c.toNat:Int) - 48))):=if_pos h
theorem rdF_stop {c:UInt8} {l:List UInt8} {n:Nat} {v:Int} (h:¬ (48 ≤ c.toNat∧c.toNat ≤ 57∧n ≤ 13)):rdF (c :: l) n v = (v,n,c :: l):=if_neg h
def partF (k:Nat) (l:List UInt8) (p:List Int):Option (List UInt8 × List Int) :=
 if (rdF l 0 (p.getD k 0)).2.1 = 0 ∨ 13 < (rdF l 0 (p.getD k 0)).2.1 ∨ (1 < (rdF l 0 (p.getD k 0)).2.1∧l.head? = some 48) then none else some ((rdF l 0 (p.getD k 0)).2.2,p.set k (rdF l 0 (p.getD k 0)).1)
theorem wrap_u64_id {n:Int} (h0:0 ≤ n) (h1:n < 18446744073709551616):IntKind.u64.wrap n = n:=by rw [IntKind.wrap_u64]; omega
theorem pow13 {n:Nat} (h:n ≤ 13):(10:Int) ^ n ≤ 10000000000000:=by
 rcases (by omega:n = 0 ∨ n = 1 ∨ n = 2 ∨ n = 3 ∨ n = 4 ∨ n = 5 ∨ n = 6 ∨ n = 7 ∨ n = 8 ∨ n = 9 ∨ n = 10 ∨ n = 11 ∨ n = 12 ∨ n = 13) with rfl | rfl | rfl | rfl | rfl | rfl | rfl | rfl | rfl | rfl | rfl | rfl | rfl | rfl <;> decide
def stopL (l:List UInt8):Prop:=∀ c,l.head? = some c→c.toNat < 48 ∨ 57 < c.toNat
theorem set3_get {l:List Int} (h:l.length = 3) {k:Nat} (hk:k < 3) (x:Int):(l.set k x).getD k 0 = x:=by
 simp [List.getD,h,hk]
theorem set3_set (l:List Int) (k:Nat) (x y:Int):(l.set k x).set k y = l.set k y:=List.set_set ..
theorem pkF_digit {c:UInt8} {l:List UInt8} {k:Nat} {p d:List Int} (h:48 ≤ c.toNat∧c.toNat ≤ 57):pkF (c :: l) k p d = if (0 < d.getD k 0∧p.getD k 0 = 0) ∨ d.getD k 0 = 13 then none else pkF l k (p.set k (IntKind.u64.wrap (IntKind.u64.wrap (10 * p.getD k 0) + ((c.toNat:Int) - 48)))) (d.set k (wrap64 (d.getD k 0 + 1))):=by
 show (if c.toNat = 46 then _ else if c.toNat < 48 ∨ 57 < c.toNat then none else _) = _
 rw [if_neg (by omega),if_neg (by omega)]
theorem pkF_dot {c:UInt8} {l:List UInt8} {k:Nat} {p d:List Int} (h:c.toNat = 46):pkF (c :: l) k p d = if k + 1 = 3 then none else pkF l (k + 1) p d:=by
 show (if c.toNat = 46 then _ else _) = _
 rw [if_pos h]
theorem pkF_bad {c:UInt8} {l:List UInt8} {k:Nat} {p d:List Int} (h:c.toNat < 48 ∨ 57 < c.toNat) (h46:c.toNat ≠ 46):pkF (c :: l) k p d = none:=by
 show (if c.toNat = 46 then _ else if c.toNat < 48 ∨ 57 < c.toNat then none else _) = _
 rw [if_neg h46,if_pos h]
theorem run_more {k:Nat} (hk:k < 3):∀ (l:List UInt8) (n:Nat) (v:Int) (p d:List Int),p.length = 3→d.length = 3→1 ≤ n→n ≤ 13→1 ≤ v→v < 10 ^ n →
  ((rdF l n v).2.1 ≤ 13∧n ≤ (rdF l n v).2.1∧stopL (rdF l n v).2.2∧pkF l k (p.set k v) (d.set k (n:Int)) = pkF (rdF l n v).2.2 k (p.set k (rdF l n v).1) (d.set k ((rdF l n v).2.1:Int))) ∨
  (13 < (rdF l n v).2.1∧pkF l k (p.set k v) (d.set k (n:Int)) = none)
 | [],n,v,p,d,hp,hd,h1,h13,hv,hv2=>.inl ⟨h13,Nat.le_refl _,fun c h=>(by cases h),rfl⟩
 | c :: l,n,v,p,d,hp,hd,h1,h13,hv,hv2=>by
  by_cases hc:48 ≤ c.toNat∧c.toNat ≤ 57
  ·rw [rdF_go ⟨hc.1,hc.2,h13⟩,pkF_digit hc,set3_get hp hk,set3_get hd hk]
   by_cases hn:n = 13
   ·subst hn
    rw [if_pos (.inr rfl)]
    refine .inr ⟨?_,rfl⟩
    cases l with
    | nil=>show 13 < 13 + 1; omega
    | cons x l =>
     rw [rdF_stop (by omega)]
     show 13 < 13 + 1
     omega
   ·rw [if_neg (by omega)]
    have hp13:=pow13 (n:=n) (by omega)
    have hp13':(10:Int) ^ (n + 1) = 10 * 10 ^ n:=by rw [Int.pow_succ]; omega
    have w1:IntKind.u64.wrap (10 * v) = 10 * v:=wrap_u64_id (by omega) (by omega)
    have w2:IntKind.u64.wrap (10 * v + ((c.toNat:Int) - 48)) = 10 * v + ((c.toNat:Int) - 48):=wrap_u64_id (by omega) (by omega)
    have w3:wrap64 ((n:Int) + 1) = ((n + 1:Nat):Int):=by rw [IntWalk.wrap64_in _ (by omega)]; omega
    rw [w1,w2,w3,set3_set,set3_set]
    have ih:=run_more hk l (n + 1) (10 * v + ((c.toNat:Int) - 48)) p d hp hd (by omega) (by omega) (by omega) (by omega)
    rcases ih with ⟨a,b,e,f⟩ | ⟨a,b⟩
    ·exact .inl ⟨a,by omega,e,f⟩
    ·exact .inr ⟨a,b⟩
  ·rw [rdF_stop (fun h=>hc ⟨h.1,h.2.1⟩)]
   refine .inl ⟨h13,Nat.le_refl _,fun x hx=>?_,rfl⟩
   simp only [List.head?_cons,Option.some.injEq] at hx
   subst hx
   omega
theorem run_part {k:Nat} (hk:k < 3) (l:List UInt8) (p d:List Int) (hp:p.length = 3) (hd:d.length = 3) (hpk:p.getD k 0 = 0) (hdk:d.getD k 0 = 0) :
  (partF k l p = none∧((rdF l 0 0).2.1 = 0∧stopL l ∨ pkF l k p d = none)) ∨
  (∃ (v:Int) (n:Nat) (rest:List UInt8),partF k l p = some (rest,p.set k v)∧1 ≤ n∧n ≤ 13∧stopL rest∧pkF l k p d = pkF rest k (p.set k v) (d.set k (n:Int))):=by
 unfold partF
 rw [hpk]
 cases l with
 | nil =>
  refine .inl ⟨if_pos (.inl rfl),.inl ⟨rfl,fun c h=>(by cases h)⟩⟩
 | cons c l =>
  by_cases hc:48 ≤ c.toNat∧c.toNat ≤ 57
  ·rw [rdF_go ⟨hc.1,hc.2,by omega⟩,pkF_digit hc,hpk,hdk,if_neg (show ¬ ((0 < (0:Int)∧(0:Int) = 0) ∨ (0:Int) = 13) by omega)]
   have w1:IntKind.u64.wrap (10 * 0) = 0:=wrap_u64_id (by omega) (by omega)
   have w2:IntKind.u64.wrap (0 + ((c.toNat:Int) - 48)) = (c.toNat:Int) - 48:=by rw [Int.zero_add]; exact wrap_u64_id (by omega) (by omega)
   have w3:wrap64 ((0:Int) + 1) = ((1:Nat):Int):=by rw [IntWalk.wrap64_in _ (by omega)]; rfl
   rw [w1,w2,w3]
   by_cases h0:c.toNat = 48
   ·have hc48:c = 48:=UInt8.toNat_inj.1 h0
    have hv:(c.toNat:Int) - 48 = 0:=by omega
    rw [hv]
    cases l with
    | nil =>
     refine .inr ⟨0,1,[],?_,(by omega),(by omega),fun c h=>(by cases h),rfl⟩
     rw [if_neg (by simp [rdF])]
     rfl
    | cons x l =>
     by_cases hx:48 ≤ x.toNat∧x.toNat ≤ 57
     ·have ge:∀ (l:List UInt8) (n:Nat) (v:Int),n ≤ (rdF l n v).2.1:=by
       intro l
       induction l with
       | nil=>intro n v; exact Nat.le_refl _
       | cons y l ih =>
        intro n v
        by_cases hy:48 ≤ y.toNat∧y.toNat ≤ 57∧n ≤ 13
        ·rw [rdF_go hy]
         have:=ih (n + 1) (IntKind.u64.wrap (IntKind.u64.wrap (10 * v) + ((y.toNat:Int) - 48)))
         omega
        ·rw [rdF_stop hy]; exact Nat.le_refl _
      have h1:1 < (rdF (x :: l) (0 + 1) 0).2.1:=by
       rw [rdF_go ⟨hx.1,hx.2,by omega⟩]
       have:=ge l (0 + 1 + 1) (IntKind.u64.wrap (IntKind.u64.wrap (10 * 0) + ((x.toNat:Int) - 48)))
       omega
      have h2:pkF (x :: l) k (p.set k 0) (d.set k ((1:Nat):Int)) = none:=by
       rw [pkF_digit hx,set3_get hp hk,set3_get hd hk,if_pos (.inl ⟨by omega,rfl⟩)]
      exact .inl ⟨if_pos (.inr (.inr ⟨h1,by simp [hc48]⟩)),.inr h2⟩
     ·rw [rdF_stop (fun h=>hx ⟨h.1,h.2.1⟩)]
      refine .inr ⟨0,1,x :: l,?_,(by omega),(by omega),fun y hy=>?_,rfl⟩
      ·rw [if_neg (by simp)]
      ·simp only [List.head?_cons,Option.some.injEq] at hy
       subst hy
       omega
   ·have hh:¬ (c :: l).head? = some 48:=by
     simp only [List.head?_cons,Option.some.injEq]
     rintro rfl
     exact h0 rfl
    have ih:=run_more hk l 1 ((c.toNat:Int) - 48) p d hp hd (Nat.le_refl _) (by omega) (by omega) (by omega)
    rcases ih with ⟨a,b,e,f⟩ | ⟨a,b⟩
    ·refine .inr ⟨(rdF l 1 ((c.toNat:Int) - 48)).1,(rdF l 1 ((c.toNat:Int) - 48)).2.1,(rdF l 1 ((c.toNat:Int) - 48)).2.2,?_,by omega,a,e,f⟩
     have a':(rdF l (0 + 1) ((c.toNat:Int) - 48)).2.1 ≤ 13:=a
     have b':1 ≤ (rdF l (0 + 1) ((c.toNat:Int) - 48)).2.1:=b
     rw [if_neg (fun h=>by rcases h with h | h | h; omega; omega; exact hh h.2)]
    ·exact .inl ⟨if_pos (.inr (.inl a)),.inr b⟩
  ·have hs:stopL (c :: l):=fun x hx=>by
    simp only [List.head?_cons,Option.some.injEq] at hx
    subst hx
    omega
   rw [rdF_stop (fun h=>hc ⟨h.1,h.2.1⟩)]
   exact .inl ⟨if_pos (.inl rfl),.inl ⟨rfl,hs⟩⟩
def okID (d:ID):Prop:=1 ≤ d.Node∧d.Node ≤ 16∧d.Seq ≤ 1099511627776∧0 ≤ d.Off∧d.Off ≤ 19999
theorem within_s (l:List W3) (hl:l.length ≤ 100):W (bundle_within l) fun r=>(r = true∧∀ x ∈ l,x.b ≤ x.a∧x.a ≤ x.c) ∨ (r = false∧¬ ∀ x ∈ l,x.b ≤ x.a∧x.a ≤ x.c):=by
 unfold bundle_within
 refine W_loop (fun i:Int=>0 ≤ i∧i ≤ (l.length:Int)∧∀ x ∈ l.take i.toNat,x.b ≤ x.a∧x.a ≤ x.c) (fun i=>l.length - i.toNat) ?_ ⟨by omega,by omega,by simp⟩
 intro i hi
 refine W_if (fun h=>?_) fun h=>?_
 ·refine W_idx (by omega) (by omega) fun x hx=>?_
  have hm:=List.mem_of_getElem? hx
  refine W_if (fun h=>W_done (W_ret (.inr ⟨rfl,fun q=>?_⟩))) fun h=>?_
  ·have:=q x hm; omega
  refine W_if (fun h=>W_done (W_ret (.inr ⟨rfl,fun q=>?_⟩))) fun h2=>?_
  ·have:=q x hm; omega
  refine W_op fun j hj=>W_next ⟨⟨by omega,by omega,fun y hy=>?_⟩,by omega⟩
  rw [show j.toNat = i.toNat + 1 from by omega,List.take_add_one,hx] at hy
  rcases List.mem_append.1 hy with hy | hy
  ·exact hi.2.2 y hy
  ·simp at hy; subst hy; omega
 ·refine W_done (W_ret (.inl ⟨rfl,?_⟩))
  have:=hi.2.2
  rwa [List.take_of_length_le (by omega)] at this
theorem checkID_s (d:ID):W (bundle_CheckID d) fun r=>(r = 0∧okID d) ∨ (r = 2∧¬ okID d):=by
 unfold bundle_CheckID
 refine W_call (within_s _ (by simp)) fun r hr=>?_
 rcases hr with ⟨rfl,hr⟩ | ⟨rfl,hr⟩
 ·have h1:=hr ⟨d.Node,1,16⟩ (by simp)
  have h2:=hr ⟨d.Off,0,19999⟩ (by simp)
  dsimp only at h1 h2
  refine W_brnot (W_brT ?_)
  refine W_if (fun h=>W_ret (.inr ⟨rfl,fun k=>?_⟩)) fun h=>W_ret (.inl ⟨rfl,?_⟩)
  ·unfold okID at k; omega
  ·unfold okID; omega
 ·refine W_brnot (W_brF (W_ret (.inr ⟨rfl,fun k=>hr fun x hx=>?_⟩)))
  unfold okID at k
  simp at hx
  rcases hx with rfl | rfl
  ·dsimp only; omega
  ·dsimp only; omega
theorem it3 {d0 d1 d2:Int} (F:Int→Option (Step Int (Int ⊕ Unit))) (f0:F 0 = some (if d0 = 0 then .done (.inl 0) else .next 1)) (f1:F 1 = some (if d1 = 0 then .done (.inl 1) else .next 2)) (f2:F 2 = some (if d2 = 0 then .done (.inl 2) else .next 3)) (f3:F 3 = some (.done (.inr ()))) :
  iter F 0 = some (if d0 = 0 then .inl 0 else if d1 = 0 then .inl 1 else if d2 = 0 then .inl 2 else .inr ()):=by
 have s3:iter F 3 = some (.inr ()):=by rw [iter_eq,f3]
 have s2:iter F 2 = some (if d2 = 0 then .inl 2 else .inr ()):=by
  rw [iter_eq,f2]
  by_cases h:d2 = 0
  ·rw [if_pos h,if_pos h]
  ·rw [if_neg h,if_neg h]; exact s3
 have s1:iter F 1 = some (if d1 = 0 then .inl 1 else if d2 = 0 then .inl 2 else .inr ()):=by
  rw [iter_eq,f1]
  by_cases h:d1 = 0
  ·rw [if_pos h,if_pos h]
  ·rw [if_neg h,if_neg h]; exact s2
 rw [iter_eq,f0]
 by_cases h:d0 = 0
 ·rw [if_pos h,if_pos h]
 ·rw [if_neg h,if_neg h]; exact s1
theorem contains3 (d0 d1 d2:Int):slices_Contains ([d0,d1,d2],0) = some (decide (d0 = 0) || decide (d1 = 0) || decide (d2 = 0)):=by
 have st:∀ (i x:Int),0 ≤ i→i < 3→(br ((0:Int) == x) (some (Step.done (Sum.inl i))) ((addI .i64 i (1:Int)).bind fun x_5=>some (Step.next x_5)):Option (Step Int (Int ⊕ Unit))) = some (if x = 0 then .done (.inl i) else .next (i + 1)):=fun i x h0 h1=>by
  rw [addI_ok (by omega)]
  by_cases h:x = 0
  ·subst h; rfl
  ·rw [show ((0:Int) == x) = false from beq_eq_false_iff_ne.2 (fun g=>h g.symm),if_neg h]; rfl
 have hit:=it3 (d0:=d0) (d1:=d1) (d2:=d2) (fun x_3=>br (decide (x_3 < (([d0,d1,d2]:List Int).length:Int))) ((idx [d0,d1,d2] x_3).bind fun x_4=>br ((0:Int) == x_4) (some (.done (.inl x_3))) ((addI .i64 x_3 (1:Int)).bind fun x_5=>some (.next x_5))) (some (.done (.inr ()))))
  (st 0 d0 (by decide) (by decide)) (st 1 d1 (by decide) (by decide)) (st 2 d2 (by decide) (by decide)) rfl
 unfold slices_Contains slices_Index
 dsimp only at hit ⊢
 rw [hit]
 by_cases h0:d0 = 0
 ·rw [if_pos h0,decide_eq_true h0]; rfl
 ·rw [if_neg h0,decide_eq_false h0]
  by_cases h1:d1 = 0
  ·rw [if_pos h1,decide_eq_true h1]; rfl
  ·rw [if_neg h1,decide_eq_false h1]
   by_cases h2:d2 = 0
   ·rw [if_pos h2,decide_eq_true h2]; rfl
   ·rw [if_neg h2,decide_eq_false h2]; rfl
theorem three {l:List Int} (h:l.length = 3):∃ a b c,l = [a,b,c]:=by
 rcases l with _ | ⟨a,_ | ⟨b,_ | ⟨c,_ | ⟨d,l⟩⟩⟩⟩
 ·simp at h
 ·simp at h
 ·simp at h
 ·exact ⟨a,b,c,rfl⟩
 ·simp at h
end Go.Proofs.YtjcbpfhlgebgdaaDoor
