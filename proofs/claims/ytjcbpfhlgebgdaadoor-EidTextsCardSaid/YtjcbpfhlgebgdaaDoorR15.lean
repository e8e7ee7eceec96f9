import Derived.Test.YtjcbpfhlgebgdaaDoorR14
noncomputable section
namespace Go.Run
open Go.RowKit
inductive OrdR (ops:Array Oper):Array Bool→List Nat→Prop where
 | nil {l:Array Bool} (h:Region.ready .any ops l = []):OrdR ops l []
 | cons {l:Array Bool} {i:Nat} {rest:List Nat} (h:i ∈ Region.ready .any ops l) (k:OrdR ops (l.setIfInBounds i true) rest):OrdR ops l (i :: rest)
theorem filter_lt {α:Type} {p q:α→Bool}:∀ (l:List α),(∀ x,q x = true→p x = true)→(∃ x ∈ l,p x = true∧q x = false)→(l.filter q).length < (l.filter p).length
 | [],_,h=>by obtain ⟨x,hx,_⟩:=h; cases hx
 | a :: l,hs,h=>by
  have hle:∀ l:List α,(l.filter q).length ≤ (l.filter p).length:=by
   intro l
   induction l with
   | nil=>simp
   | cons b l ih =>
    simp only [List.filter_cons]
    cases hq:q b with
    | true=>rw [hs b hq]; simp; exact ih
    | false=>cases hp:p b <;> simp <;> omega
  obtain ⟨x,hx,h1,h2⟩:=h
  simp only [List.filter_cons]
  rcases List.mem_cons.1 hx with rfl | hx
  ·rw [h1,h2]; simp
   have:=hle l; omega
  ·have ih:=filter_lt l hs ⟨x,hx,h1,h2⟩
   cases hq:q a with
   | true=>rw [hs a hq]; simp; exact ih
   | false=>cases hp:p a <;> simp <;> omega
def unl (ops:Array Oper) (l:Array Bool):Nat:=((List.range ops.size).filter fun i=>!l.getD i true).length
theorem unl_set {ops:Array Oper} {l:Array Bool} {i:Nat} (h:i ∈ Region.ready .any ops l):unl ops (l.setIfInBounds i true) < unl ops l:=by
 obtain ⟨h1,o,ho,_⟩:=mem_ready.1 h
 have hlt:i < ops.size:=(Array.getElem?_eq_some_iff.1 ho).1
 have hil:i < l.size:=by
  rcases Nat.lt_or_ge i l.size with q | q
  ·exact q
  ·rw [Array.getD_eq_getD_getElem?,Array.getElem?_eq_none q] at h1; cases h1
 refine filter_lt _ (fun x hx=>?_) ⟨i,by simpa using hlt,by simpa using h1,?_⟩
 ·by_cases e:i = x
  ·subst e
   exfalso
   rw [Array.getD_eq_getD_getElem?,Array.getElem?_setIfInBounds_self_of_lt hil] at hx
   simp at hx
  ·rwa [getD_set_ne true e] at hx
 ·rw [Array.getD_eq_getD_getElem?,Array.getElem?_setIfInBounds_self_of_lt hil]; rfl
theorem ord_lin {ops:Array Oper}:∀ (fuel t:Nat) (l:Array Bool),unl ops l ≤ fuel→OrdR ops l (Region.linearise.go .any ops fuel t l [])
 | 0,t,l,h=>by
  refine .nil ?_
  cases hr:Region.ready .any ops l with
  | nil=>rfl
  | cons i rest =>
   have:=unl_set (ops:=ops) (l:=l) (i:=i) (by rw [hr]; simp)
   omega
 | fuel + 1,t,l,h=>by
  simp only [Region.linearise.go]
  change OrdR ops l (match (Region.ready .any ops l)[t % (Region.ready .any ops l).length]? with
   | some i=>Region.linearise.go .any ops fuel (t / (Region.ready .any ops l).length) (l.setIfInBounds i true) [i]
   | none=>[].reverse)
  cases hi:(Region.ready .any ops l)[t % (Region.ready .any ops l).length]? with
  | none =>
   refine .nil ?_
   cases hr:Region.ready .any ops l with
   | nil=>rfl
   | cons x xs =>
    rw [hr] at hi
    have hlt:t % (x :: xs).length < (x :: xs).length:=Nat.mod_lt _ (by simp)
    simp at hi
    simp at hlt
    omega
  | some i =>
   simp only []
   rw [linearise_go_acc,List.reverse_singleton,List.singleton_append]
   have hm:=List.mem_of_getElem? hi
   exact .cons hm (ord_lin fuel _ _ (by have:=unl_set hm; omega))
def Cl (ops:Array Oper) (listed:Array Bool):Prop :=
 ∀ (j:Nat) (oj:Oper),ops[j]? = some oj→listed.getD j false = true→∀ e ∈ oj.after,Region.binds .any e = true→listed.getD e.on false = true
theorem anc_listed {ops:Array Oper} {listed:Array Bool} (hc:Cl ops listed) {i:Nat}:∀ (fuel j:Nat),ancB ops fuel j i = true →
  (∀ oj,ops[j]? = some oj→∀ e ∈ oj.after,Region.binds .any e = true→listed.getD e.on false = true)→listed.getD i false = true
 | 0,_,h,_=>by simp [ancB] at h
 | fuel + 1,j,h,hj=>by
  simp only [ancB] at h
  split at h
  ·rename_i o ho
   rw [List.any_eq_true] at h
   obtain ⟨e,he,h⟩:=h
   simp only [Bool.and_eq_true,Bool.or_eq_true,beq_iff_eq] at h
   have hl:=hj o ho e (by simpa using he) h.1
   rcases h.2 with h2 | h2
   ·rw [← h2]; exact hl
   ·exact anc_listed hc fuel e.on h2 fun oj hoj e' he' hb'=>hc e.on oj hoj hl e' he' hb'
  ·cases h
theorem unlisted_of {listed:Array Bool} {i:Nat} (h:listed.getD i true = false):listed.getD i false = false:=by
 rcases Nat.lt_or_ge i listed.size with h' | h'
 ·simpa [h'] using h
 ·simp [Array.getElem?_eq_none h'] at h
theorem Cl.step {ops:Array Oper} {listed:Array Bool} (hc:Cl ops listed) {i:Nat} (hi:i ∈ Region.ready .any ops listed):Cl ops (listed.setIfInBounds i true):=by
 intro j oj hoj hl e he hb
 obtain ⟨ui,oi,hoi,ai⟩:=mem_ready.1 hi
 by_cases hji:j = i
 ·subst hji
  rw [hoi] at hoj; cases hoj
  exact getD_set_true (ai e he hb)
 ·rw [getD_set_ne false (Ne.symm hji)] at hl
  exact getD_set_true (hc j oj hoj hl e he hb)
theorem anc_ready {ops:Array Oper} {listed:Array Bool} (hc:Cl ops listed) {i j:Nat} (hi:i ∈ Region.ready .any ops listed) (ha:anc ops i j = true):listed.getD j false = true:=by
 obtain ⟨_,oi,hoi,ai⟩:=mem_ready.1 hi
 exact anc_listed hc _ i ha fun oj hoj=>by rw [hoi] at hoj; cases hoj; exact ai
theorem OrdR.unlisted {ops:Array Oper} {l:Array Bool} {rest:List Nat} (h:OrdR ops l rest):∀ i ∈ rest,l.getD i true = false:=by
 induction h with
 | nil _=>intro i hi; cases hi
 | @cons l j rest hj _ ih =>
  intro i hi
  rcases List.mem_cons.1 hi with rfl | hi
  ·exact (mem_ready.1 hj).1
  ·have:=ih i hi
   by_cases e:j = i
   ·subst e; exact (mem_ready.1 hj).1
   ·rwa [getD_set_ne true e] at this
theorem OrdR.head_not_mem {ops:Array Oper} {l:Array Bool} {i:Nat} {rest:List Nat} (hi:i ∈ Region.ready .any ops l) (h:OrdR ops (l.setIfInBounds i true) rest):i ∉ rest:=by
 intro hm
 have:=h.unlisted i hm
 obtain ⟨h1,o,ho,_⟩:=mem_ready.1 hi
 have hil:i < l.size:=by
  rcases Nat.lt_or_ge i l.size with q | q
  ·exact q
  ·rw [Array.getD_eq_getD_getElem?,Array.getElem?_eq_none q] at h1; cases h1
 rw [Array.getD_eq_getD_getElem?,Array.getElem?_setIfInBounds_self_of_lt hil] at this
 simp at this
theorem OrdR.all {ops:Array Oper} (hd:∀ (i:Nat) (o:Oper),ops[i]? = some o→∀ e ∈ o.after,Region.binds .any e = true→e.on < i) {l:Array Bool} {rest:List Nat} (h:OrdR ops l rest) (hs:l.size = ops.size) :
  ∀ i,i < ops.size→l.getD i true = false→i ∈ rest:=by
 induction h with
 | @nil l h =>
  intro i
  induction i using Nat.strongRecOn with
  | _ i ih =>
   intro hi hu
   exfalso
   have:i ∈ Region.ready .any ops l:=by
    refine mem_ready.2 ⟨hu,ops[i],Array.getElem?_eq_getElem hi,fun e he hb=>?_⟩
    have hlt:=hd i _ (Array.getElem?_eq_getElem hi) e he hb
    cases hl:l.getD e.on true with
    | false=>exact absurd (ih e.on hlt (by omega) hl) (by simp)
    | true =>
     have:e.on < l.size:=by omega
     simpa [this] using hl
   rw [h] at this; cases this
 | @cons l j rest hj _ ih =>
  intro i hi hu
  by_cases e:j = i
  ·subst e; simp
  ·refine List.mem_cons_of_mem _ (ih (by simpa using hs) i hi ?_)
   rwa [getD_set_ne true e]
theorem map_congr {ρ ρ':Ev} {l:List Operand} (h:∀ x ∈ l,ρ x = ρ' x):l.map ρ = l.map ρ':=List.map_congr_left h
theorem evalQ_congr {P:Program} {H:AH} {ρ ρ':Ev} {o:Oper} (h:∀ x ∈ o.op.operands,ρ x = ρ' x):evalQ P H ρ o = evalQ P H ρ' o:=by
 have om:∀ {x:Option Operand},(∀ y,x = some y→ρ y = ρ' y)→omapA ρ x = omapA ρ' x:=by
  intro x hx
  cases x with
  | none=>rfl
  | some y=>simp only [omapA,hx y rfl]
 unfold evalQ
 cases ho:o.op with
 | move x=>simp only [h x (by simp [ho,Op.operands])]
 | assign x=>simp only [h x (by simp [ho,Op.operands])]
 | pick c a b=>simp only [h c (by simp [ho,Op.operands]),h a (by simp [ho,Op.operands]),h b (by simp [ho,Op.operands])]
 | load t a=>simp only [h a (by simp [ho,Op.operands])]
 | nilCheck x=>simp only [h x (by simp [ho,Op.operands])]
 | binOp op t x y yt=>simp only [h x (by simp [ho,Op.operands]),h y (by simp [ho,Op.operands])]
 | unOp op t x=>simp only [h x (by simp [ho,Op.operands])]
 | convert s d x=>simp only [h x (by simp [ho,Op.operands])]
 | makeInterface t x=>simp only [h x (by simp [ho,Op.operands])]
 | makeFunc f a b =>
  have h1:a.toList.map ρ = a.toList.map ρ':=map_congr fun x hx=>h x (by rw [ho]; exact Array.mem_append.2 (.inl (by simpa using hx)))
  have h2:b.toList.map ρ = b.toList.map ρ':=map_congr fun x hx=>h x (by rw [ho]; exact Array.mem_append.2 (.inr (by simpa using hx)))
  simp only [h1,h2]
 | slice t x lo hi mx =>
  have h1:omapA ρ lo = omapA ρ' lo:=om fun y hy=>h y (by simp [ho,Op.operands,hy])
  have h2:omapA ρ hi = omapA ρ' hi:=om fun y hy=>h y (by simp [ho,Op.operands,hy])
  have h3:omapA ρ mx = omapA ρ' mx:=om fun y hy=>h y (by simp [ho,Op.operands,hy])
  simp only [h x (by simp [ho,Op.operands]),h1,h2,h3]
 | fieldAddr s x f=>simp only [h x (by simp [ho,Op.operands])]
 | field t x f=>simp only [h x (by simp [ho,Op.operands])]
 | indexAddr t x i=>simp only [h x (by simp [ho,Op.operands]),h i (by simp [ho,Op.operands])]
 | index t x i=>simp only [h x (by simp [ho,Op.operands]),h i (by simp [ho,Op.operands])]
 | lookup t m k ok=>simp only [h m (by simp [ho,Op.operands]),h k (by simp [ho,Op.operands])]
 | typeAssert x xt a ok=>simp only [h x (by simp [ho,Op.operands])]
 | extract x i=>simp only [h x (by simp [ho,Op.operands])]
 | build t ps =>
  have:(ps.toList.map fun x=>(x.1,ρ x.2)) = ps.toList.map fun x=>(x.1,ρ' x.2):=List.map_congr_left fun x hx=>by
   rw [h x.2 (by simp [ho,Op.operands]; exact ⟨x.1,by simpa using hx⟩)]
  simp only [this]
 | call c =>
  obtain ⟨callee,args,tys⟩:=c
  cases callee with
  | builtin b =>
   have:args.toList.map ρ = args.toList.map ρ':=map_congr fun x hx=>h x (by rw [ho]; exact Array.mem_append.2 (.inr (by simpa using hx)))
   simp only [this]
  | value f=>rfl
  | invoke r n=>rfl
 | _=>rfl
theorem evalA_congr {P:Program} {H:AH} {ρ ρ':Ev} {o:Oper} (h:∀ x ∈ o.op.operands,ρ x = ρ' x):evalA P H ρ o = evalA P H ρ' o:=by
 unfold evalA
 cases ho:o.op with
 | box t x=>simp only [h x (by simp [ho,Op.operands])]
 | buildSlice t len ps =>
  have:(ps.toList.map fun x=>(x.1,ρ x.2)) = ps.toList.map fun x=>(x.1,ρ' x.2):=List.map_congr_left fun x hx=>by
   rw [h x.2 (by simp [ho,Op.operands]; exact ⟨x.1,by simpa using hx⟩)]
  simp only [this]
 | makeMap t r=>cases r <;> rfl
 | makeSlice t l c=>simp only [h l (by simp [ho,Op.operands]),h c (by simp [ho,Op.operands])]
 | range t x=>simp only [h x (by simp [ho,Op.operands])]
 | convert s d x=>simp only [h x (by simp [ho,Op.operands])]
 | _=>rfl
theorem aev_congr {tm tm':T Value} {ops:Array Oper} {o:Oper} (h:∀ s ∈ looks ops o,tget tm s = tget tm' s):∀ x ∈ o.op.operands,aev tm x = aev tm' x:=by
 intro x hx
 cases x with
 | tmp t =>
  refine h t ?_
  unfold looks
  rw [List.mem_append]
  left
  rw [List.mem_filterMap]
  exact ⟨.tmp t,by simpa using hx,rfl⟩
 | _=>rfl
theorem yielded_congr {tm tm':T Value} {ops:Array Oper} {o:Oper} (h:∀ s ∈ looks ops o,tget tm s = tget tm' s):Region.wanted o (yieldedA ops tm) = Region.wanted o (yieldedA ops tm'):=by
 unfold Region.wanted
 cases hg:o.guard with
 | none=>rfl
 | some gw =>
  obtain ⟨g,want⟩:=gw
  simp only [yieldedA]
  cases hd:(ops[g]?).bind (·.dst) with
  | none=>rfl
  | some d =>
   simp only
   rw [h d (by unfold looks; rw [List.mem_append]; right; rw [hg]; simp [hd])]
theorem kindOf_congr {P:Program} {H:AH} {tm tm':T Value} {ops:Array Oper} {o:Oper} (h:∀ s ∈ looks ops o,tget tm s = tget tm' s):kindOf P H ops tm o = kindOf P H ops tm' o:=by
 unfold kindOf
 rw [yielded_congr h,evalQ_congr (aev_congr h),evalA_congr (aev_congr h)]
theorem kindOf_pin {P:Program} {H:AH} {tm:T Value} {ops:Array Oper} {o:Oper} (h:kindOf P H ops tm o ≠ .eff):pinO ops o = false:=by
 unfold kindOf at h
 cases hp:pinO ops o with
 | false=>rfl
 | true=>rw [hp] at h; exact absurd rfl h
theorem oeq_rel {L:Lam} {w:World} {p:Pl} {ob ob':AObj} (h:oeq ob' ob = true) (k:ORel L w p ob):ORel L w p ob':=by
 unfold oeq at h
 split at h
 ·rename_i n t ty op fz n' t' ty' op' fz'
  simp only [Bool.and_eq_true] at h
  obtain ⟨⟨⟨⟨⟨h1,h2⟩,h3⟩,h4⟩,h5⟩,h6⟩:=h
  have h1:n = n':=Nat.eq_of_beq_eq_true h1
  have h2:ty = ty':=Nat.eq_of_beq_eq_true h2
  have h4:fz.1 = fz'.1:=Nat.eq_of_beq_eq_true h4
  have h5:fz.2 = fz'.2:=Nat.eq_of_beq_eq_true h5
  have h45:fz = fz':=by
   obtain ⟨a,b⟩:=fz; obtain ⟨c,d⟩:=fz'
   simp only at h4 h5; rw [h4,h5]
  have h3:op = op':=by
   cases op <;> cases op' <;> first | rfl | (cases h3; done) | (rw [Nat.eq_of_beq_eq_true h3])
  subst h1; subst h2; subst h3; subst h45
  obtain ⟨cur,fr,q1,q2,q3,q4⟩:=k
  refine ⟨cur,fr,q1,q2,q3,fun i hi=>?_⟩
  obtain ⟨v,x,r1,r2,r3,r4⟩:=q4 i hi
  refine ⟨v,x,?_,r2,r3,r4⟩
  unfold rowsEq at h6
  split at h6
  ·rename_i a b ha hb
   have:=allEq_eq (fun x y=>veq_eq) h6
   subst this
   obtain ⟨_,a2⟩:=T.row_spec n 0 a ha
   obtain ⟨_,b2⟩:=T.row_spec n 0 a hb
   have e1:=a2 i hi
   have e2:=b2 i hi
   rw [Nat.zero_add] at e1 e2
   rw [e1,← e2]; exact r1
  ·cases h6
 ·have:_ = _:=Nat.eq_of_beq_eq_true h
  subst this
  exact k
 ·cases h
end Go.Run
