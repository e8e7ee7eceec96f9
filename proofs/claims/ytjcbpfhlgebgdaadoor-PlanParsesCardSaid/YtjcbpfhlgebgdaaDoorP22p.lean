import Derived.Test.YtjcbpfhlgebgdaaDoorXL
import Derived.Test.YtjcbpfhlgebgdaaDoorXGPp
import Derived.Test.YtjcbpfhlgebgdaaDoorP3p
import Derived.Test.YtjcbpfhlgebgdaaDoorXGPn
import Derived.Test.YtjcbpfhlgebgdaaDoorXCn
set_option linter.unusedSimpArgs false
set_option linter.unusedVariables false
namespace Go.Proofs.YtjcbpfhlgebgdaaDoor
open Go.X Go.Eng
theorem aget_aput {α β:Type} [DecidableEq α] (m:List (α × β)) (k k':α) (v:β):aget (aput m k v) k' = if k = k' then some v else aget m k':=by
 induction m with
 | nil=>simp [aput,aget]
 | cons e m ih =>
  obtain ⟨a,b⟩:=e
  simp only [aput]
  split
  ·rename_i h; subst h
   simp only [aget]
   split <;> rfl
  ·rename_i h
   simp only [aget,ih]
   split
   ·rename_i h'; subst h'
    rw [if_neg (fun q=>h q.symm)]
   ·rfl
theorem mem_aput {α β:Type} [DecidableEq α] {m:List (α × β)} {k:α} {v:β} {e:α × β} (h:e ∈ aput m k v):e ∈ m ∨ e = (k,v):=by
 induction m with
 | nil=>simp [aput] at h; exact .inr h
 | cons x m ih =>
  obtain ⟨a,b⟩:=x
  simp only [aput] at h
  split at h
  ·simp only [List.mem_cons] at h ⊢
   rcases h with h | h
   ·exact .inr h
   ·exact .inl (.inr h)
  ·simp only [List.mem_cons] at h ⊢
   rcases h with h | h
   ·exact .inl (.inl h)
   ·rcases ih h with h | h
    ·exact .inl (.inr h)
    ·exact .inr h
def cmpI (a b:Int):Int:=if a < b then -1 else if b < a then 1 else 0
theorem cmpI_w (a b:Int):cmp_Compare (a,b) = some (cmpI a b):=by
 have hn:∀ x,cmp_isNaN x = some false:=fun x=>by unfold cmp_isNaN; simp
 unfold cmp_Compare cmpI
 simp only [hn,Option.bind_some,br,cond_false]
 by_cases h1:a < b
 ·simp [h1]
 ·by_cases h2:b < a <;> simp [h1,h2]
def orI (a b c:Int):Int:=if a ≠ 0 then a else if b ≠ 0 then b else c
theorem or_w (a b c:Int):cmp_Or [a,b,c] = some (orI a b c):=by
 refine W.eq ?_
 unfold cmp_Or
 refine W_loop (fun i:Int=>i = 0 ∨ (i = 1∧a = 0) ∨ (i = 2∧a = 0∧b = 0) ∨ (i = 3∧a = 0∧b = 0∧c = 0)) (fun i=>3 - i.toNat) ?_ (by omega)
 intro i hi
 refine W_if (fun h1=>?_) (fun h1=>?_)
 ·rcases hi with rfl | ⟨rfl,h⟩ | ⟨rfl,h,h'⟩ | ⟨rfl,_⟩
  ·refine W_eq (a:=a) rfl ?_
   refine W_if (fun h2=>W_done (W_ret ?_)) (fun h2=>?_)
   ·unfold orI; rw [if_pos h2]
   ·refine W_op fun c hc=>W_next (by dsimp only; omega)
  ·refine W_eq (a:=b) rfl ?_
   refine W_if (fun h2=>W_done (W_ret ?_)) (fun h2=>?_)
   ·unfold orI; rw [if_neg (by omega),if_pos h2]
   ·refine W_op fun c hc=>W_next (by dsimp only; omega)
  ·refine W_eq (a:=c) rfl ?_
   refine W_if (fun h2=>W_done (W_ret ?_)) (fun h2=>?_)
   ·unfold orI; rw [if_neg (by omega),if_neg (by omega)]
   ·refine W_op fun c hc=>W_next (by dsimp only; omega)
  ·simp at h1
 ·simp only [List.length_cons,List.length_nil] at h1
  refine W_done (W_ret ?_)
  unfold orI
  rw [if_neg (by omega),if_neg (by omega)]
  omega
def cmpC (a b:Contact):Int:=orI (cmpI a.Start b.Start) (cmpI a.From b.From) (cmpI a.To b.To)
theorem compare_w (a b:Contact):plan_compare (a,b) = some (cmpC a b):=by
 unfold plan_compare
 simp only [cmpI_w,Option.bind_some,or_w]
 rfl
theorem cmpC_lt (a b:Contact):cmpC a b < 0 ↔ a.Start < b.Start ∨ (a.Start = b.Start∧(a.From < b.From ∨ (a.From = b.From∧a.To < b.To))):=by
 unfold cmpC orI cmpI
 (repeat' split) <;> omega
structure OKC (c:Contact):Prop where
 f:1 ≤ c.From∧c.From ≤ 16
 t:1 ≤ c.To∧c.To ≤ 16
 ne:c.From ≠ c.To
 s:0 ≤ c.Start∧c.Start < c.End∧c.End ≤ 1099511627776
 r:1 ≤ c.Rate∧c.Rate ≤ 1048576
 d:0 ≤ c.Delay∧c.Delay ≤ 1048576
def apartC (a b:Contact):Prop:=a.From = b.From→a.To = b.To→a.End ≤ b.Start ∨ b.End ≤ a.Start
structure Valid (l:List Contact):Prop where
 ok:∀ c ∈ l,OKC c
 asc:l.Pairwise (fun a b=>cmpC a b < 0)
 ap:l.Pairwise apartC
theorem nodes_w {l:List Int} (h:∀ x ∈ l,1 ≤ x∧x ≤ 16) (hl:l.length ≤ 100):plan_nodes l = some true:=by
 refine W.eq ?_
 unfold plan_nodes
 refine W_loop (fun i:Int=>0 ≤ i∧i ≤ (l.length:Int)) (fun i=>l.length - i.toNat) ?_ (by omega)
 intro i hi
 (first | refine W_op fun _ _=>?_ | refine W_if ?_ ?_ <;> intro _ <;> try (exfalso; omega))
 ·refine W_idx (by omega) (by omega) fun x hx=>?_
  have:=h x (List.mem_of_getElem? hx)
  iterate 3 (first | refine W_op fun _ _=>?_ | refine W_if ?_ ?_ <;> intro _ <;> try (exfalso; omega))
  exact W_next (by dsimp only; omega)
 ·exact W_done (W_ret rfl)
theorem one_w {c:Contact} (h:OKC c):plan_One c = some 0:=by
 obtain ⟨h1,h2,h3,h4,h5,h6⟩:=h
 refine W.eq ?_
 unfold plan_One
 refine W_eq (nodes_w (by simp; omega) (by simp)) ?_
 refine W_brnot (W_brT ?_)
 iterate 8 (first | refine W_op fun _ _=>?_ | refine W_if ?_ ?_ <;> intro _ <;> try (exfalso; omega))
 exact W_ret rfl
theorem kin_pair {c:Contact} (h:OKC c):kinC .Pair (⟨c.From,c.To⟩:Pair) = true:=by
 obtain ⟨h1,h2,h3,h4,h5,h6⟩:=h
 simp only [kinC,Bool.and_eq_true,decide_eq_true_eq]
 exact ⟨InR_i64 _ (by omega),InR_i64 _ (by omega)⟩
theorem mget_w {l:List (Pair × Int)} {k:Pair} (hk:kinC .Pair k = true) (hl:∀ e ∈ l,kinC .Pair e.1 = true):mget (α:=Pair) (β:=Int) (kinC .Pair) l k = some (aget l k):=by
 unfold mget
 rw [hk,List.all_eq_true.2 hl]; rfl
theorem mput_w {l:List (Pair × Int)} {k:Pair} {v:Int} (hk:kinC .Pair k = true) (hl:∀ e ∈ l,kinC .Pair e.1 = true):mput (α:=Pair) (β:=Int) (kinC .Pair) l k v = some (aput l k v):=by
 unfold mput
 rw [hk,List.all_eq_true.2 hl]; rfl
theorem check_w {l:List Contact} (h:Valid l) (hl:l.length ≤ 200):plan_Check l = some (0,0):=by
 refine W.eq ?_
 unfold plan_Check
 (first | refine W_op fun _ _=>?_ | refine W_if ?_ ?_ <;> intro _ <;> try (exfalso; omega))
 refine W_loop (fun s=>0 ≤ s.1∧s.1 ≤ (l.length:Int)∧(∀ e ∈ s.2,kinC .Pair e.1 = true)∧∀ (j:Nat) c e,s.1.toNat ≤ j→l[j]? = some c→aget s.2 (⟨c.From,c.To⟩:Pair) = some e→e ≤ c.Start) (fun s=>l.length - s.1.toNat) ?_
  ⟨by simp,by simp,by simp,fun j c e _ _ he=>by simp [aget] at he⟩
 rintro ⟨i,m⟩ ⟨i1,i2,i3,i4⟩
 dsimp only at i1 i2 i3 i4 ⊢
 (first | refine W_op fun _ _=>?_ | refine W_if ?_ ?_ <;> intro _ <;> try (exfalso; omega))
 ·refine W_idx (by omega) (by omega) fun x hx=>?_
  have hx1:=h.ok x (List.mem_of_getElem? hx)
  obtain ⟨hxi,hxv⟩:=List.getElem?_eq_some_iff.1 hx
  have later:∀ (j:Nat) c,i.toNat < j→l[j]? = some c→cmpC x c < 0∧apartC x c:=by
   intro j c hj hc
   obtain ⟨h2,h3⟩:=List.getElem?_eq_some_iff.1 hc
   have q1:=List.pairwise_iff_getElem.1 h.asc i.toNat j hxi h2 hj
   have q2:=List.pairwise_iff_getElem.1 h.ap i.toNat j hxi h2 hj
   rw [hxv,h3] at q1 q2
   exact ⟨q1,q2⟩
  refine W_eq (one_w hx1) ?_
  refine W_brne (fun h=>absurd rfl h) fun _=>?_
  have fin:W ((plan_of x).bind fun x_9=>(mget (α:=Pair) (β:=Int) (kinC .Pair) m x_9).bind fun x_10=>br (decide (x.Start < (x_10.getD (0:Int)))) (some (.done (.inl ((12:Int),i,m))))
    ((plan_of x).bind fun x_11=>(mput (α:=Pair) (β:=Int) (kinC .Pair) m x_11 x.End).bind fun x_12=>(addI .i64 i (1:Int)).bind fun x_13=>some (.next (x_13,x_12)))) (fun (r:Step (Int × List (Pair × Int)) ((Int × Int × List (Pair × Int)) ⊕ List (Pair × Int)))=>match r with
    | .next s'=>(0 ≤ s'.1∧s'.1 ≤ (l.length:Int)∧(∀ e ∈ s'.2,kinC .Pair e.1 = true)∧∀ (j:Nat) c e,s'.1.toNat ≤ j→l[j]? = some c→aget s'.2 (⟨c.From,c.To⟩:Pair) = some e→e ≤ c.Start)∧l.length - s'.1.toNat < l.length - i.toNat
    | .done r=>False):=by
   have hp:plan_of x = some (⟨x.From,x.To⟩:Pair):=rfl
   refine W_eq hp ?_
   refine W_eq (mget_w (kin_pair hx1) i3) ?_
   refine W_if (fun hlt=>?_) (fun _=>?_)
   ·exfalso
    have hs:=hx1.s
    cases hq:aget m (⟨x.From,x.To⟩:Pair) with
    | none=>rw [hq] at hlt; simp at hlt; omega
    | some e =>
     rw [hq] at hlt
     have:=i4 i.toNat x e (Nat.le_refl _) hx hq
     simp at hlt; omega
   ·refine W_eq hp ?_
    refine W_eq (mput_w (kin_pair hx1) i3) ?_
    refine W_op fun j hj=>W_next ⟨⟨by dsimp only; omega,by dsimp only; omega,fun e he=>?_,fun k c e hk hc he=>?_⟩,by dsimp only; omega⟩
    ·rcases mem_aput he with he | rfl
     ·exact i3 e he
     ·exact kin_pair hx1
    ·dsimp only at hk he
     rw [aget_aput] at he
     split at he
     ·rename_i heq
      cases he
      obtain ⟨q1,q2⟩:=later k c (by omega) hc
      have hc1:=(h.ok c (List.mem_of_getElem? hc)).s
      rw [cmpC_lt] at q1
      simp only [Pair.mk.injEq] at heq
      rcases q2 heq.1 heq.2 with q | q
      ·exact q
      ·have:=hx1.s
       omega
     ·exact i4 k c e (by omega) hc he
  (first | refine W_op fun _ _=>?_ | refine W_if ?_ ?_ <;> intro _ <;> try (exfalso; omega))
  ·(first | refine W_op fun _ _=>?_ | refine W_if ?_ ?_ <;> intro _ <;> try (exfalso; omega))
   rename_i k hk
   refine W_idx (by omega) (by omega) fun y hy=>?_
   obtain ⟨h2,h3⟩:=List.getElem?_eq_some_iff.1 hy
   have q1:=List.pairwise_iff_getElem.1 h.asc k.toNat i.toNat h2 hxi (by omega)
   rw [h3,hxv] at q1
   refine W_eq (compare_w y x) ?_
   refine W_if (fun hge=>by omega) (fun _=>?_)
   refine fin.mono fun r hr=>?_
   cases r with
   | next s=>exact hr
   | done r=>exact hr.elim
  ·refine fin.mono fun r hr=>?_
   cases r with
   | next s=>exact hr
   | done r=>exact hr.elim
 ·exact W_done (W_ret rfl)
theorem cmpC_trans {a b c:Contact} (h1:cmpC a b < 0) (h2:cmpC b c < 0):cmpC a c < 0:=by
 rw [cmpC_lt] at *; omega
theorem asks_w {l:List Contact} {now:Int} {ns:List Int} (h:Valid l) (hl:l.length ≤ 200) (hn:0 ≤ now∧now ≤ 1099511627776) (hs:∀ x ∈ ns,1 ≤ x∧x ≤ 16) (hns:ns.length ≤ 100):plan_asks (l,now,ns) = some 0:=by
 refine W.eq ?_
 unfold plan_asks
 dsimp only
 refine W_eq (check_w h hl) ?_
 refine W_brne (fun h=>absurd rfl h) fun _=>?_
 refine W_eq (nodes_w hs hns) ?_
 refine W_brnot (W_brT ?_)
 iterate 2 (first | refine W_op fun _ _=>?_ | refine W_if ?_ ?_ <;> intro _ <;> try (exfalso; omega))
 exact W_ret rfl
def nxt (f t now:Int) (c:Contact):Prop:=c.From = f∧c.To = t∧now < c.End
instance (f t now:Int) (c:Contact):Decidable (nxt f t now c):=by unfold nxt; infer_instance
theorem index_w {l:List Contact} {f t now:Int} (hl:l.length ≤ 200):W (slices_IndexFunc_f158 l (f,t,now)) fun r=>r.2 = (f,t,now) ∧
  ((r.1 = -1∧∀ c ∈ l,¬ nxt f t now c) ∨ ∃ c,0 ≤ r.1∧l[r.1.toNat]? = some c∧nxt f t now c∧∀ (j:Nat) d,j < r.1.toNat→l[j]? = some d→¬ nxt f t now d):=by
 unfold slices_IndexFunc_f158
 refine W_loop (fun s=>0 ≤ s.1∧s.1 ≤ (l.length:Int)∧s.2 = (f,t,now)∧∀ (j:Nat) d,j < s.1.toNat→l[j]? = some d→¬ nxt f t now d) (fun s=>l.length - s.1.toNat) ?_ ⟨by simp,by simp,rfl,by simp⟩
 rintro ⟨i,a,b,n⟩ ⟨i1,i2,i3,i4⟩
 dsimp only at i1 i2 i3 i4 ⊢
 cases i3
 (first | refine W_op fun _ _=>?_ | refine W_if ?_ ?_ <;> intro _ <;> try (exfalso; omega))
 ·refine W_idx (by omega) (by omega) fun x hx=>?_
  have hq:plan_Next_1 x (f,t,now) = some (decide (nxt f t now x),(f,t,now)):=by
   unfold plan_Next_1 plan_of nxt
   simp only [Option.bind_some]
   have e1:(x.From == f) = decide (x.From = f):=rfl
   have e2:(x.To == t) = decide (x.To = t):=rfl
   rw [e1,e2]
   by_cases h1:x.From = f <;> by_cases h2:x.To = t <;> simp [br,h1,h2]
  refine W_eq hq ?_
  dsimp only
  refine W_brd (fun hn=>W_done (W_ret ?_)) (fun hn=>?_)
  ·exact ⟨rfl,.inr ⟨x,i1,hx,hn,i4⟩⟩
  ·refine W_op fun j hj=>W_next ⟨⟨by dsimp only; omega,by dsimp only; omega,rfl,fun k d hk hd=>?_⟩,by dsimp only; omega⟩
   dsimp only at hk
   by_cases hki:k = i.toNat
   ·subst hki; rw [hx] at hd; cases hd; exact hn
   ·exact i4 k d (by omega) hd
 ·refine W_done (W_ret ⟨rfl,.inl ⟨rfl,fun c hc=>?_⟩⟩)
  obtain ⟨j,hj⟩:=List.mem_iff_getElem?.1 hc
  exact i4 j c (by have:=(List.getElem?_eq_some_iff.1 hj).1; omega) hj
def actv (f t now:Int) (c:Contact):Prop:=c.From = f∧c.To = t∧c.Start ≤ now∧now < c.End
theorem active_w {l:List Contact} {f t now:Int} (h:Valid l) (hl:l.length ≤ 200) (hn:0 ≤ now∧now ≤ 1099511627776) (hf:1 ≤ f∧f ≤ 16) (ht:1 ≤ t∧t ≤ 16) :
  W (plan_Active (l,f,t,now)) fun r=>r.2.2 = 0∧((r.2.1 = true∧r.1 ∈ l∧actv f t now r.1) ∨ (r.2.1 = false∧∀ c ∈ l,¬ actv f t now c)):=by
 unfold plan_Active plan_Next
 dsimp only
 refine W_bind (W_eq (asks_w h hl hn (by simp; omega) (by simp)) ?_)
 refine W_brne (fun h=>absurd rfl h) fun _=>?_
 refine W_call (index_w hl) ?_
 rintro ⟨i,a,b,n⟩ ⟨e,hi⟩
 cases e
 rcases hi with ⟨rfl,hno⟩ | ⟨c,h0,hc,hcn,hlo⟩
 ·dsimp only
  (first | refine W_op fun _ _=>?_ | refine W_if ?_ ?_ <;> intro _ <;> try (exfalso; omega))
  refine W_ret ?_
  dsimp only
  refine W_brT (W_ret ⟨rfl,.inr ⟨rfl,fun c hc ha=>hno c hc ⟨ha.1,ha.2.1,ha.2.2.2⟩⟩⟩)
 ·dsimp only
  (first | refine W_op fun _ _=>?_ | refine W_if ?_ ?_ <;> intro _ <;> try (exfalso; omega))
  refine W_eq (a:=c) (by unfold idx; rw [if_pos h0]; exact hc) ?_
  refine W_ret ?_
  dsimp only
  refine W_brF ?_
  refine W_if (fun hlt=>W_ret ⟨rfl,.inr ⟨rfl,fun d hd ha=>?_⟩⟩) (fun hge=>W_ret ⟨rfl,.inl ⟨rfl,List.mem_of_getElem? hc,⟨hcn.1,hcn.2.1,by dsimp only; omega,hcn.2.2⟩⟩⟩)
  obtain ⟨j,hj⟩:=List.mem_iff_getElem?.1 hd
  obtain ⟨hjl,hjv⟩:=List.getElem?_eq_some_iff.1 hj
  obtain ⟨hil,hiv⟩:=List.getElem?_eq_some_iff.1 hc
  rcases Nat.lt_trichotomy j i.toNat with q | q | q
  ·exact hlo j d q hj ⟨ha.1,ha.2.1,ha.2.2.2⟩
  ·subst q; rw [hc] at hj; cases hj
   have:=ha.2.2.1; omega
  ·have:=List.pairwise_iff_getElem.1 h.asc i.toNat j hil hjl q
   rw [hiv,hjv,cmpC_lt] at this
   have:=ha.2.2.1
   omega
def ex1:Contact:=⟨1,2,0,10,5,0⟩
def ex2:Contact:=⟨2,1,0,10,5,0⟩
def ex3:Contact:=⟨1,2,10,20,5,0⟩
def ex4:Contact:=⟨1,2,9,20,5,0⟩
theorem c_w (a b c d e:Int):packhorselaw22_c (a,b,c,d,e) = some ⟨a,b,c,d,e,0⟩:=rfl
theorem example_w:packhorselaw22_example () = some [ex1,ex2,ex3]:=rfl
theorem ex_valid:Valid [ex1,ex2,ex3]:=by
 refine ⟨fun c hc=>?_,?_,?_⟩
 ·simp only [List.mem_cons,List.not_mem_nil,or_false] at hc
  rcases hc with rfl | rfl | rfl <;> exact ⟨by decide,by decide,by decide,by decide,by decide,by decide⟩
 ·simp only [List.pairwise_cons,List.mem_cons,List.not_mem_nil,or_false,forall_eq_or_imp,forall_eq,cmpC_lt,false_imp_iff,implies_true,List.Pairwise.nil,and_true]
  simp [ex1,ex2,ex3]
 ·simp only [List.pairwise_cons,List.mem_cons,List.not_mem_nil,or_false,forall_eq_or_imp,forall_eq,apartC,false_imp_iff,implies_true,List.Pairwise.nil,and_true]
  simp [ex1,ex2,ex3]
theorem check_ex:plan_Check [ex1,ex4] = some (12,1):=by
 refine W.eq ?_
 unfold plan_Check
 refine W_if (fun h=>absurd h (by decide)) (fun _=>?_)
 refine W_loop (fun s:Int × List (Pair × Int)=>s = (0,[]) ∨ s = (1,[((⟨1,2⟩:Pair),10)])) (fun s=>2 - s.1.toNat) ?_ (.inl rfl)
 have o1:OKC ex1:=⟨by decide,by decide,by decide,by decide,by decide,by decide⟩
 have o4:OKC ex4:=⟨by decide,by decide,by decide,by decide,by decide,by decide⟩
 intro s hs
 rcases hs with rfl | rfl
 ·dsimp only
  refine W_if (fun _=>?_) (fun h=>absurd (by decide) h)
  refine W_eq (a:=ex1) rfl ?_
  refine W_eq (one_w o1) ?_
  refine W_brne (fun h=>absurd rfl h) fun _=>?_
  refine W_if (fun h=>absurd h (by decide)) (fun _=>?_)
  refine W_eq (a:=(⟨1,2⟩:Pair)) rfl ?_
  refine W_eq (mget_w (by decide) (by simp)) ?_
  refine W_if (fun h=>absurd h (by decide)) (fun _=>?_)
  refine W_eq (a:=(⟨1,2⟩:Pair)) rfl ?_
  refine W_eq (mput_w (by decide) (by simp)) ?_
  refine W_op fun j hj=>W_next ⟨.inr (by subst hj; rfl),by subst hj; decide⟩
 ·dsimp only
  refine W_if (fun _=>?_) (fun h=>absurd (by decide) h)
  refine W_eq (a:=ex4) rfl ?_
  refine W_eq (one_w o4) ?_
  refine W_brne (fun h=>absurd rfl h) fun _=>?_
  refine W_if (fun _=>?_) (fun h=>absurd (by decide) h)
  refine W_op fun j hj=>?_
  subst hj
  refine W_eq (a:=ex1) rfl ?_
  refine W_eq (compare_w ex1 ex4) ?_
  refine W_if (fun h=>absurd h (by decide)) (fun _=>?_)
  refine W_eq (a:=(⟨1,2⟩:Pair)) rfl ?_
  refine W_eq (mget_w (by decide) (by decide)) ?_
  refine W_if (fun _=>?_) (fun h=>absurd (by decide) h)
  exact W_done (W_ret rfl)
theorem awake_w:packhorselaw22_awake () = some true:=by
 refine W.eq ?_
 unfold packhorselaw22_awake
 refine W_eq (c_w _ _ _ _ _) ?_
 refine W_eq (c_w _ _ _ _ _) ?_
 refine W_eq check_ex ?_
 refine W_eq example_w ?_
 refine W_call (active_w ex_valid (by decide) (by decide) (by decide) (by decide)) ?_
 rintro ⟨c,is,e⟩ ⟨h1,h2⟩
 dsimp only at h1 h2 ⊢
 subst h1
 rcases h2 with ⟨rfl,h3,h4⟩ | ⟨rfl,h3⟩
 ·refine W_if (fun _=>?_) (fun h=>absurd rfl h)
  refine W_if (fun _=>?_) (fun h=>absurd rfl h)
  refine W_if (fun _=>?_) (fun h=>absurd rfl h)
  refine W_brT ?_
  refine W_eq example_w ?_
  refine W_eq (a:=ex3) rfl ?_
  simp only [List.mem_cons,List.not_mem_nil,or_false] at h3
  rcases h3 with rfl | rfl | rfl
  ·exact absurd h4 (by unfold actv; decide)
  ·exact absurd h4 (by unfold actv; decide)
  ·exact W_ret (by simp)
 ·exact absurd (show actv 1 2 10 ex3 by unfold actv; decide) (h3 ex3 (by simp))
theorem nodes_s (l:List Int) (hl:l.length ≤ 100):W (plan_nodes l) fun r=>(r = true∧∀ x ∈ l,1 ≤ x∧x ≤ 16) ∨ (r = false∧¬ ∀ x ∈ l,1 ≤ x∧x ≤ 16):=by
 unfold plan_nodes
 refine W_loop (fun i:Int=>0 ≤ i∧i ≤ (l.length:Int)∧∀ x ∈ l.take i.toNat,1 ≤ x∧x ≤ 16) (fun i=>l.length - i.toNat) ?_ ⟨by omega,by omega,by simp⟩
 intro i hi
 (first | refine W_op fun _ _=>?_ | refine W_if ?_ ?_ <;> intro _ <;> try (exfalso; omega))
 ·refine W_idx (by omega) (by omega) fun x hx=>?_
  have hm:=List.mem_of_getElem? hx
  refine W_if (fun h=>W_done (W_ret (.inr ⟨rfl,fun q=>?_⟩))) fun h=>?_
  ·have:=q x hm; omega
  refine W_if (fun h=>W_done (W_ret (.inr ⟨rfl,fun q=>?_⟩))) fun h2=>?_
  ·have:=q x hm; omega
  refine W_op fun j hj=>W_next ⟨⟨by omega,by omega,fun y hy=>?_⟩,by omega⟩
  rw [show j.toNat = i.toNat + 1 from by omega,List.take_add_one,hx] at hy
  rcases List.mem_append.1 hy with hy | hy
  ·exact hi.2.2 y hy
  ·simp at hy; subst hy; omega
 ·refine W_done (W_ret (.inl ⟨rfl,?_⟩))
  have:=hi.2.2
  rwa [List.take_of_length_le (by omega)] at this
theorem one_s (c:Contact):W (plan_One c) fun r=>(r = 0∧OKC c) ∨ (r = 2∧¬ OKC c):=by
 unfold plan_One
 refine W_call (nodes_s _ (by simp)) fun r hr=>?_
 have no:¬ OKC c→W (some (2:Int)) fun r=>(r = 0∧OKC c) ∨ (r = 2∧¬ OKC c):=fun h=>W_ret (.inr ⟨rfl,h⟩)
 rcases hr with ⟨rfl,hr⟩ | ⟨rfl,hr⟩
 ·refine W_brnot (W_brT ?_)
  have h1:=hr c.From (by simp); have h2:=hr c.To (by simp)
  refine W_if (fun h=>no fun k=>k.ne h) fun q1=>?_
  refine W_if (fun h=>no fun k=>by have:=k.s; omega) fun q2=>?_
  refine W_if (fun h=>no fun k=>by have:=k.s; omega) fun q3=>?_
  refine W_if (fun h=>no fun k=>by have:=k.s; omega) fun q4=>?_
  refine W_if (fun h=>no fun k=>by have:=k.r; omega) fun q5=>?_
  refine W_if (fun h=>no fun k=>by have:=k.r; omega) fun q6=>?_
  refine W_if (fun h=>no fun k=>by have:=k.d; omega) fun q7=>?_
  refine W_if (fun h=>no fun k=>by have:=k.d; omega) fun q8=>?_
  exact W_ret (.inl ⟨rfl,⟨h1,h2,q1,by omega,by omega,by omega⟩⟩)
 ·refine W_brnot (W_brF ?_)
  refine no fun k=>hr fun x hx=>?_
  simp at hx
  rcases hx with rfl | rfl
  ·exact k.f
  ·exact k.t
theorem rone_s (c:Contact):W (packhorseref22_One c) fun r=>(r = 0∧OKC c) ∨ (r = 2∧¬ OKC c):=by
 unfold packhorseref22_One
 have no:¬ OKC c→W (some (2:Int)) fun r=>(r = 0∧OKC c) ∨ (r = 2∧¬ OKC c):=fun h=>W_ret (.inr ⟨rfl,h⟩)
 refine W_if (fun h=>no fun k=>by have:=k.f; omega) fun q1=>?_
 refine W_if (fun h=>no fun k=>by have:=k.f; omega) fun q2=>?_
 refine W_if (fun h=>no fun k=>by have:=k.t; omega) fun q3=>?_
 refine W_if (fun h=>no fun k=>by have:=k.t; omega) fun q4=>?_
 refine W_if (fun h=>no fun k=>k.ne h) fun q5=>?_
 refine W_if (fun h=>no fun k=>by have:=k.s; omega) fun q6=>?_
 refine W_if (fun h=>no fun k=>by have:=k.s; omega) fun q7=>?_
 refine W_if (fun h=>no fun k=>by have:=k.s; omega) fun q8=>?_
 refine W_if (fun h=>no fun k=>by have:=k.r; omega) fun q9=>?_
 refine W_if (fun h=>no fun k=>by have:=k.r; omega) fun q10=>?_
 refine W_if (fun h=>no fun k=>by have:=k.d; omega) fun q11=>?_
 refine W_if (fun h=>no fun k=>by have:=k.d; omega) fun q12=>?_
 exact W_ret (.inl ⟨rfl,⟨by omega,by omega,q5,by omega,by omega,by omega⟩⟩)
theorem before_s (a b:Contact):packhorseref22_before (a,b) = some (decide (cmpC a b < 0)):=by
 refine W.eq ?_
 unfold packhorseref22_before
 refine W_if (fun h=>W_ret ?_) fun h=>W_if (fun h2=>W_ret ?_) fun h2=>W_ret ?_
 all_goals
  rw [Bool.eq_iff_iff]
  simp only [decide_eq_true_eq,cmpC_lt]
  omega
theorem pair_s (a b:Contact):packhorseref22_pair (a,b) = some (decide (a.From = b.From∧a.To = b.To)):=by
 refine W.eq ?_
 unfold packhorseref22_pair
 refine W_if (fun h=>W_ret ?_) fun h=>W_ret ?_
 ·simp [h]; rfl
 ·simp [h]
def BadAt (l:List Contact) (i:Nat) (e:Int):Prop:=∃ x,l[i]? = some x∧Valid (l.take i) ∧
 ((e = 2∧¬ OKC x) ∨ (e = 19∧OKC x∧∃ y,0 < i∧l[i - 1]? = some y∧¬ cmpC y x < 0) ∨
  (e = 12∧OKC x∧(∀ y,0 < i→l[i - 1]? = some y→cmpC y x < 0)∧∃ c ∈ l.take i,c.From = x.From∧c.To = x.To∧x.Start < c.End))
def CR (l:List Contact) (r:Int × Int):Prop :=
 (200 < l.length∧r = (5,0)) ∨ (l.length ≤ 200∧Valid l∧r = (0,0)) ∨ (l.length ≤ 200∧∃ i:Nat,r.2 = i∧BadAt l i r.1)
theorem Valid.take {l:List Contact} (h:Valid l) (i:Nat):Valid (l.take i) :=
 ⟨fun c hc=>h.ok c (List.mem_of_mem_take hc),h.asc.sublist (List.take_sublist i l),h.ap.sublist (List.take_sublist i l)⟩
theorem valid_snoc {l:List Contact} {i:Nat} {x:Contact} (hx:l[i]? = some x):Valid (l.take (i + 1)) ↔ Valid (l.take i)∧OKC x∧(∀ y,0 < i→l[i - 1]? = some y→cmpC y x < 0)∧∀ c ∈ l.take i,c.From = x.From→c.To = x.To→c.End ≤ x.Start:=by
 have e:l.take (i + 1) = l.take i++[x]:=by rw [List.take_add_one,hx]; rfl
 have hil:=(List.getElem?_eq_some_iff.1 hx).1
 rw [e]
 constructor
 ·rintro ⟨h1,h2,h3⟩
  rw [List.pairwise_append] at h2 h3
  have hox:OKC x:=h1 x (by simp)
  refine ⟨⟨fun c hc=>h1 c (by simp [hc]),h2.1,h3.1⟩,hox,fun y hi hy=>?_,fun c hc p1 p2=>?_⟩
  ·refine h2.2.2 y ?_ x (by simp)
   refine List.mem_iff_getElem?.2 ⟨i - 1,?_⟩
   rw [List.getElem?_take,if_pos (by omega)]; exact hy
  ·have q1:=h2.2.2 c hc x (by simp)
   have q2:=h3.2.2 c hc x (by simp) p1 p2
   have q3:=hox.s
   have q4:=(h1 c (by simp [hc])).s
   rw [cmpC_lt] at q1
   omega
 ·rintro ⟨⟨h1,h2,h3⟩,h4,h5,h6⟩
  have low:∀ c ∈ l.take i,cmpC c x < 0:=by
   intro c hc
   obtain ⟨j,hj⟩:=List.mem_iff_getElem?.1 hc
   rw [List.getElem?_take] at hj
   split at hj
   case isFalse=>cases hj
   rename_i hji
   have hl1:i - 1 < l.length:=by omega
   have q:=h5 l[i - 1] (by omega) (List.getElem?_eq_getElem hl1)
   by_cases hj1:j = i - 1
   ·subst hj1
    rw [List.getElem?_eq_getElem hl1] at hj
    cases hj
    exact q
   ·have hjl:j < (l.take i).length:=by simp; omega
    have hil':i - 1 < (l.take i).length:=by simp; omega
    have:=List.pairwise_iff_getElem.1 h2 j (i - 1) hjl hil' (by omega)
    rw [List.getElem_take,List.getElem_take] at this
    have hc':l[j] = c:=(List.getElem?_eq_some_iff.1 hj).2
    rw [hc'] at this
    exact cmpC_trans this q
  refine ⟨fun c hc=>?_,?_,?_⟩
  ·rcases List.mem_append.1 hc with hc | hc
   ·exact h1 c hc
   ·simp at hc; subst hc; exact h4
  ·rw [List.pairwise_append]
   exact ⟨h2,by simp,fun a ha b hb=>by simp at hb; subst hb; exact low a ha⟩
  ·rw [List.pairwise_append]
   exact ⟨h3,by simp,fun a ha b hb=>by simp at hb; subst hb; exact fun p1 p2=>.inl (h6 a ha p1 p2)⟩
theorem BadAt.no {l:List Contact} {i:Nat} {e:Int} (h:BadAt l i e) {k:Nat} (hk:i < k):¬ Valid (l.take k):=by
 obtain ⟨x,hx,_,h⟩:=h
 intro hv
 have hv':=hv.take (i + 1)
 rw [List.take_take,Nat.min_eq_left (by omega)] at hv'
 obtain ⟨h1,h2,h3,h4⟩:=(valid_snoc hx).1 hv'
 rcases h with ⟨_,h⟩ | ⟨_,_,y,h,hy,hc⟩ | ⟨_,_,_,c,hc,p1,p2,p3⟩
 ·exact h h2
 ·exact hc (h3 y h hy)
 ·have:=h4 c hc p1 p2; omega
theorem CR.det {l:List Contact} {r r':Int × Int} (h:CR l r) (h':CR l r'):r = r':=by
 have bad:∀ {i:Nat} {e:Int},BadAt l i e→¬ Valid l:=fun {i e} hb hv=>by
  obtain ⟨x,hx,_⟩:=id hb
  have hil:=(List.getElem?_eq_some_iff.1 hx).1
  exact hb.no (k:=l.length) hil (by rw [List.take_length]; exact hv)
 rcases h with ⟨h1,rfl⟩ | ⟨h1,h2,rfl⟩ | ⟨h1,i,hi,hb⟩ <;> rcases h' with ⟨k1,rfl⟩ | ⟨k1,k2,rfl⟩ | ⟨k1,j,hj,kb⟩
 ·rfl
 ·omega
 ·omega
 ·omega
 ·rfl
 ·exact absurd h2 (bad kb)
 ·omega
 ·exact absurd k2 (bad hb)
 ·have hij:i = j:=by
   rcases Nat.lt_trichotomy i j with q | q | q
   ·obtain ⟨x,_,hv,_⟩:=id kb; exact absurd hv (hb.no q)
   ·exact q
   ·obtain ⟨x,_,hv,_⟩:=id hb; exact absurd hv (kb.no q)
  subst hij
  obtain ⟨x,hx,_,h⟩:=hb
  obtain ⟨x',hx',_,k⟩:=kb
  rw [hx] at hx'; cases hx'
  have he:r.1 = r'.1:=by
   rcases h with ⟨a1,a2⟩ | ⟨a1,a2,y,a3,a4,a5⟩ | ⟨a1,a2,a3,_⟩ <;> rcases k with ⟨b1,b2⟩ | ⟨b1,b2,z,b3,b4,b5⟩ | ⟨b1,b2,b3,_⟩
   ·omega
   ·exact absurd b2 a2
   ·exact absurd b2 a2
   ·exact absurd a2 b2
   ·omega
   ·exact absurd (b3 y a3 a4) a5
   ·exact absurd a2 b2
   ·exact absurd (a3 z b3 b4) b5
   ·omega
  exact Prod.ext he (hi.trans hj.symm)
structure MInv (d:List Contact) (m:List (Pair × Int)):Prop where
 key:∀ e ∈ m,kinC .Pair e.1 = true
 up:∀ c ∈ d,∃ e,aget m (⟨c.From,c.To⟩:Pair) = some e∧c.End ≤ e
 of:∀ p e,aget m p = some e→∃ c ∈ d,(⟨c.From,c.To⟩:Pair) = p∧c.End = e
theorem check_s (l:List Contact):W (plan_Check l) (CR l):=by
 unfold plan_Check
 refine W_if (fun h=>W_ret (.inl ⟨by omega,rfl⟩)) fun hlen=>?_
 refine W_loop (fun s=>0 ≤ s.1∧s.1 ≤ (l.length:Int)∧Valid (l.take s.1.toNat)∧MInv (l.take s.1.toNat) s.2) (fun s=>l.length - s.1.toNat) ?_
  ⟨by simp,by simp,⟨by simp,by simp,by simp⟩,⟨by simp,by simp,fun p e h=>by simp [aget] at h⟩⟩
 rintro ⟨i,m⟩ ⟨i1,i2,i3,i4⟩
 dsimp only at i1 i2 i3 i4 ⊢
 have hlen':l.length ≤ 200:=by omega
 refine W_if (fun hi=>?_) fun hi=>?_
 rotate_left
 ·refine W_done (W_ret (.inr (.inl ⟨hlen',?_,rfl⟩)))
  rwa [List.take_of_length_le (by omega)] at i3
 refine W_idx (by omega) (by omega) fun x hx=>?_
 refine W_call (one_s x) fun r hr=>?_
 rcases hr with ⟨rfl,hok⟩ | ⟨rfl,hok⟩
 rotate_left
 ·refine W_if (fun _=>W_done (W_ret (.inr (.inr ⟨hlen',i.toNat,by dsimp only; omega,x,hx,i3,.inl ⟨rfl,hok⟩⟩)))) fun h=>absurd (by decide) h
 refine W_if (fun h=>absurd rfl h) fun _=>?_
 have hs:=hok.s
 have fin:(∀ y,0 < i.toNat→l[i.toNat - 1]? = some y→cmpC y x < 0)→W ((plan_of x).bind fun x_9=>(mget (α:=Pair) (β:=Int) (kinC .Pair) m x_9).bind fun x_10=>br (decide (x.Start < (x_10.getD (0:Int)))) (some (.done (.inl ((12:Int),i,m))))
    ((plan_of x).bind fun x_11=>(mput (α:=Pair) (β:=Int) (kinC .Pair) m x_11 x.End).bind fun x_12=>(addI .i64 i (1:Int)).bind fun x_13=>some (.next (x_13,x_12)))) (fun (r:Step (Int × List (Pair × Int)) ((Int × Int × List (Pair × Int)) ⊕ List (Pair × Int)))=>match r with
    | .next s=>(0 ≤ s.1∧s.1 ≤ (l.length:Int)∧Valid (l.take s.1.toNat)∧MInv (l.take s.1.toNat) s.2)∧l.length - s.1.toNat < l.length - i.toNat
    | .done r=>r = .inl ((12:Int),i,m)∧CR l (12,i)):=by
  intro hasc
  have hp:plan_of x = some (⟨x.From,x.To⟩:Pair):=rfl
  refine W_eq hp ?_
  refine W_eq (mget_w (kin_pair hok) i4.key) ?_
  refine W_if (fun hlt=>?_) (fun hlt=>?_)
  ·refine W_done ⟨rfl,.inr (.inr ⟨hlen',i.toNat,by dsimp only; omega,x,hx,i3,.inr (.inr ⟨rfl,hok,hasc,?_⟩)⟩)⟩
   cases hq:aget m (⟨x.From,x.To⟩:Pair) with
   | none=>rw [hq] at hlt; simp at hlt; omega
   | some e =>
    rw [hq] at hlt
    obtain ⟨c,hc,hcp,hce⟩:=i4.of _ e hq
    simp only [Pair.mk.injEq] at hcp
    simp at hlt
    exact ⟨c,hc,hcp.1,hcp.2,by omega⟩
  ·refine W_eq hp ?_
   refine W_eq (mput_w (kin_pair hok) i4.key) ?_
   have hle:∀ c ∈ l.take i.toNat,c.From = x.From→c.To = x.To→c.End ≤ x.Start:=by
    intro c hc p1 p2
    obtain ⟨e,he,hce⟩:=i4.up c hc
    rw [p1,p2] at he
    rw [he] at hlt
    simp at hlt
    omega
   have hval:=(valid_snoc hx).2 ⟨i3,hok,hasc,hle⟩
   refine W_op fun j hj=>W_next ⟨⟨by dsimp only; omega,by dsimp only; omega,?_,?_⟩,by dsimp only; omega⟩
   ·dsimp only
    rw [show j.toNat = i.toNat + 1 from by omega]
    exact hval
   ·dsimp only
    have ht:l.take (i.toNat + 1) = l.take i.toNat++[x]:=by rw [List.take_add_one,hx]; rfl
    rw [show j.toNat = i.toNat + 1 from by omega,ht]
    refine ⟨fun e he=>?_,fun c hc=>?_,fun p e he=>?_⟩
    ·rcases mem_aput he with he | rfl
     ·exact i4.key e he
     ·exact kin_pair hok
    ·rw [aget_aput]
     rcases List.mem_append.1 hc with hc | hc
     ·split
      ·rename_i heq
       simp only [Pair.mk.injEq] at heq
       exact ⟨_,rfl,by have:=hle c hc heq.1.symm heq.2.symm; omega⟩
      ·exact i4.up c hc
     ·simp at hc; subst hc
      rw [if_pos rfl]
      exact ⟨_,rfl,Int.le_refl _⟩
    ·rw [aget_aput] at he
     split at he
     ·rename_i heq
      cases he
      exact ⟨x,by simp,heq,rfl⟩
     ·obtain ⟨c,hc,q⟩:=i4.of p e he
      exact ⟨c,by simp [hc],q⟩
 refine W_if (fun h0=>?_) fun h0=>?_
 ·refine W_op fun k hk=>?_
  refine W_idx (by omega) (by omega) fun y hy=>?_
  have hy':l[i.toNat - 1]? = some y:=by rw [← hy]; congr 1; omega
  refine W_eq (compare_w y x) ?_
  refine W_if (fun hge=>?_) (fun hge=>?_)
  ·exact W_done (W_ret (.inr (.inr ⟨hlen',i.toNat,by dsimp only; omega,x,hx,i3,.inr (.inl ⟨rfl,hok,y,by omega,hy',by omega⟩)⟩)))
  ·refine (fin fun z _ hz=>by rw [hy'] at hz; cases hz; omega).mono fun r hr=>?_
   cases r with
   | next s=>exact hr
   | done r =>
    obtain ⟨rfl,hc⟩:=hr
    exact W_ret hc
 ·refine (fin fun z hz=>by omega).mono fun r hr=>?_
  cases r with
  | next s=>exact hr
  | done r =>
   obtain ⟨rfl,hc⟩:=hr
   exact W_ret hc
theorem rcheck_s (l:List Contact):W (packhorseref22_Check l) (CR l):=by
 unfold packhorseref22_Check
 refine W_if (fun h=>W_ret (.inl ⟨by omega,rfl⟩)) fun hlen=>?_
 refine W_loop (fun s:Int=>0 ≤ s∧s ≤ (l.length:Int)∧Valid (l.take s.toNat)) (fun s=>l.length - s.toNat) ?_ ⟨by simp,by simp,⟨by simp,by simp,by simp⟩⟩
 rintro i ⟨i1,i2,i3⟩
 have hlen':l.length ≤ 200:=by omega
 refine W_if (fun hi=>?_) fun hi=>?_
 rotate_left
 ·refine W_done (W_ret (.inr (.inl ⟨hlen',?_,rfl⟩)))
  rwa [List.take_of_length_le (by omega)] at i3
 refine W_idx (by omega) (by omega) fun x hx=>?_
 refine W_call (rone_s x) fun r hr=>?_
 rcases hr with ⟨rfl,hok⟩ | ⟨rfl,hok⟩
 rotate_left
 ·refine W_if (fun _=>W_done (W_ret (.inr (.inr ⟨hlen',i.toNat,by dsimp only; omega,x,hx,i3,.inl ⟨rfl,hok⟩⟩)))) fun h=>absurd (by decide) h
 refine W_if (fun h=>absurd rfl h) fun _=>?_
 refine W_if (fun h0=>?_) fun h0=>?_
 ·refine W_op fun k hk=>?_
  refine W_idx (by omega) (by omega) fun y hy=>?_
  have hy':l[i.toNat - 1]? = some y:=by rw [← hy]; congr 1; omega
  refine W_idx (by omega) (by omega) fun x' hx'=>?_
  rw [hx] at hx'; cases hx'
  refine W_eq (before_s y x) ?_
  refine W_if (fun hge=>?_) (fun hge=>?_)
  ·exact W_done (W_ret (.inr (.inr ⟨hlen',i.toNat,by dsimp only; omega,x,hx,i3,.inr (.inl ⟨rfl,hok,y,by omega,hy',by omega⟩)⟩)))
  ·have hasc:∀ z,0 < i.toNat→l[i.toNat - 1]? = some z→cmpC z x < 0:=fun z _ hz=>by rw [hy'] at hz; cases hz; omega
   refine W_loop (fun k:Int=>0 ≤ k∧k ≤ i∧∀ c ∈ l.take k.toNat,c.From = x.From→c.To = x.To→c.End ≤ x.Start) (fun k=>i.toNat - k.toNat) ?_ ⟨by simp,by omega,by simp⟩
   rintro k ⟨k1,k2,k3⟩
   refine W_if (fun hk=>?_) fun hk=>?_
   rotate_left
   ·refine W_done ?_
    have hki:k = i:=by omega
    subst hki
    refine W_op fun j hj=>W_next ⟨⟨by omega,by omega,?_⟩,by omega⟩
    rw [show j.toNat = k.toNat + 1 from by omega]
    exact (valid_snoc hx).2 ⟨i3,hok,hasc,k3⟩
   refine W_idx (by omega) (by omega) fun y hy=>?_
   refine W_idx (by omega) (by omega) fun x' hx'=>?_
   rw [hx] at hx'; cases hx'
   refine W_eq (pair_s y x) ?_
   have hyt:y ∈ l.take i.toNat:=List.mem_iff_getElem?.2 ⟨k.toNat,by rw [List.getElem?_take,if_pos (by omega)]; exact hy⟩
   have hnext:(y.From = x.From→y.To = x.To→y.End ≤ x.Start)→∀ c ∈ l.take (k.toNat + 1),c.From = x.From→c.To = x.To→c.End ≤ x.Start:=by
    intro h c hc
    rw [List.take_add_one,hy] at hc
    rcases List.mem_append.1 hc with hc | hc
    ·exact k3 c hc
    ·simp at hc; subst hc; exact h
   refine W_if (fun hp=>?_) (fun hp=>?_)
   ·refine W_idx (by omega) (by omega) fun y' hy'=>?_
    rw [hy] at hy'; cases hy'
    refine W_idx (by omega) (by omega) fun x' hx'=>?_
    rw [hx] at hx'; cases hx'
    refine W_if (fun hlt=>?_) (fun hlt=>?_)
    ·exact W_done (W_done (W_ret (.inr (.inr ⟨hlen',i.toNat,by dsimp only; omega,x,hx,i3,.inr (.inr ⟨rfl,hok,hasc,y,hyt,hp.1,hp.2,hlt⟩)⟩))))
    ·refine W_op fun j hj=>W_next ⟨⟨by omega,by omega,?_⟩,by omega⟩
     rw [show j.toNat = k.toNat + 1 from by omega]
     exact hnext fun _ _=>by omega
   ·refine W_op fun j hj=>W_next ⟨⟨by omega,by omega,?_⟩,by omega⟩
    rw [show j.toNat = k.toNat + 1 from by omega]
    exact hnext fun p1 p2=>absurd ⟨p1,p2⟩ hp
 ·have hasc:∀ z,0 < i.toNat→l[i.toNat - 1]? = some z→cmpC z x < 0:=fun z hz=>by omega
  refine W_loop (fun k:Int=>0 ≤ k∧k ≤ i∧∀ c ∈ l.take k.toNat,c.From = x.From→c.To = x.To→c.End ≤ x.Start) (fun k=>i.toNat - k.toNat) ?_ ⟨by simp,by omega,by simp⟩
  rintro k ⟨k1,k2,k3⟩
  refine W_if (fun hk=>?_) fun hk=>?_
  rotate_left
  ·refine W_done ?_
   have hki:k = i:=by omega
   subst hki
   refine W_op fun j hj=>W_next ⟨⟨by omega,by omega,?_⟩,by omega⟩
   rw [show j.toNat = k.toNat + 1 from by omega]
   exact (valid_snoc hx).2 ⟨i3,hok,hasc,k3⟩
  refine W_idx (by omega) (by omega) fun y hy=>?_
  refine W_idx (by omega) (by omega) fun x' hx'=>?_
  rw [hx] at hx'; cases hx'
  refine W_eq (pair_s y x) ?_
  have hyt:y ∈ l.take i.toNat:=List.mem_iff_getElem?.2 ⟨k.toNat,by rw [List.getElem?_take,if_pos (by omega)]; exact hy⟩
  have hnext:(y.From = x.From→y.To = x.To→y.End ≤ x.Start)→∀ c ∈ l.take (k.toNat + 1),c.From = x.From→c.To = x.To→c.End ≤ x.Start:=by
   intro h c hc
   rw [List.take_add_one,hy] at hc
   rcases List.mem_append.1 hc with hc | hc
   ·exact k3 c hc
   ·simp at hc; subst hc; exact h
  refine W_if (fun hp=>?_) (fun hp=>?_)
  ·refine W_idx (by omega) (by omega) fun y' hy'=>?_
   rw [hy] at hy'; cases hy'
   refine W_idx (by omega) (by omega) fun x' hx'=>?_
   rw [hx] at hx'; cases hx'
   refine W_if (fun hlt=>?_) (fun hlt=>?_)
   ·exact W_done (W_done (W_ret (.inr (.inr ⟨hlen',i.toNat,by dsimp only; omega,x,hx,i3,.inr (.inr ⟨rfl,hok,hasc,y,hyt,hp.1,hp.2,hlt⟩)⟩))))
   ·refine W_op fun j hj=>W_next ⟨⟨by omega,by omega,?_⟩,by omega⟩
    rw [show j.toNat = k.toNat + 1 from by omega]
    exact hnext fun _ _=>by omega
  ·refine W_op fun j hj=>W_next ⟨⟨by omega,by omega,?_⟩,by omega⟩
   rw [show j.toNat = k.toNat + 1 from by omega]
   exact hnext fun p1 p2=>absurd ⟨p1,p2⟩ hp
end Go.Proofs.YtjcbpfhlgebgdaaDoor
namespace Go.Proofs.YtjcbpfhlgebgdaaDoor
open Go Go.Eng Go.RowKit Go.X Go.Seq
def numL:Int→List UInt8→Int × Bool
 | n,[]=>(n,true)
 | n,c :: l=>if c.toNat < 48 ∨ 57 < c.toNat then (0,false) else if 1125899906842624 < 10 * n + ((c.toNat:Int) - 48) then (0,false) else numL (10 * n + ((c.toNat:Int) - 48)) l
def numB (s:List UInt8):Int × Bool:=if s = [] ∨ (s.head? = some 48∧1 < s.length) then (0,false) else numL 0 s
theorem numL_range:∀ {l:List UInt8} {n:Int},0 ≤ n→n ≤ 1125899906842624→0 ≤ (numL n l).1∧(numL n l).1 ≤ 1125899906842624
 | [],n,h0,h1=>⟨h0,h1⟩
 | c :: l,n,h0,h1=>by
  unfold numL
  split
  ·exact ⟨Int.le_refl _,by decide⟩
  ·split
   ·exact ⟨Int.le_refl _,by decide⟩
   ·exact numL_range (by omega) (by omega)
theorem numL_bad:∀ {l:List UInt8} {n:Int},(numL n l).2 = false→(numL n l).1 = 0
 | [],n,h=>by cases h
 | c :: l,n,h=>by
  unfold numL at h ⊢
  split at h
  ·rename_i h1; rw [if_pos h1]
  ·rename_i h1
   rw [if_neg h1]
   split at h
   ·rename_i h2; rw [if_pos h2]
   ·rename_i h2; rw [if_neg h2]; exact numL_bad h
theorem numB_range (s:List UInt8):0 ≤ (numB s).1∧(numB s).1 ≤ 1125899906842624:=by
 unfold numB
 split
 ·exact ⟨Int.le_refl _,by decide⟩
 ·exact numL_range (Int.le_refl _) (by decide)
theorem num_loop {s:List UInt8} (F:Int × Int→Option (Step (Int × Int) ((Int × Bool) ⊕ Int)))
  (hF:∀ (n:Int) (i:Nat) (h:i < s.length),0 ≤ n→n ≤ 1125899906842624→F (n,(i:Int)) = some (if s[i].toNat < 48 ∨ 57 < s[i].toNat then .done (.inl (0,false)) else if 1125899906842624 < 10 * n + ((s[i].toNat:Int) - 48) then .done (.inl (0,false)) else .next (10 * n + ((s[i].toNat:Int) - 48),(i:Int) + 1)))
  (hE:∀ n,F (n,(s.length:Int)) = some (.done (.inr n))) :
  ∀ (k i:Nat) (n:Int),i + k = s.length→0 ≤ n→n ≤ 1125899906842624→iter F (n,(i:Int)) = some (if (numL n (s.drop i)).2 then .inr (numL n (s.drop i)).1 else .inl (0,false))
 | 0,i,n,hi,h0,h1=>by
  have:i = s.length:=by omega
  subst this
  rw [iter_eq,hE,List.drop_eq_nil_of_le (Nat.le_refl _)]
  rfl
 | k + 1,i,n,hi,h0,h1=>by
  have hlt:i < s.length:=by omega
  rw [iter_eq,hF n i hlt h0 h1,List.drop_eq_getElem_cons hlt]
  unfold numL
  by_cases c1:s[i].toNat < 48 ∨ 57 < s[i].toNat
  ·rw [if_pos c1,if_pos c1]; rfl
  ·rw [if_neg c1,if_neg c1]
   by_cases c2:1125899906842624 < 10 * n + ((s[i].toNat:Int) - 48)
   ·rw [if_pos c2,if_pos c2]; rfl
   ·rw [if_neg c2,if_neg c2]
    have:=num_loop F hF hE k (i + 1) (10 * n + ((s[i].toNat:Int) - 48)) (by omega) (by omega) (by omega)
    dsimp only
    rw [show (i:Int) + 1 = ((i + 1:Nat):Int) by omega,this]
theorem inr_u64 {n:Int} (h0:0 ≤ n) (h1:n < 18446744073709551616):InR .u64 n:=by
 show IntKind.wrap .u64 n = n
 rw [IntKind.wrap_u64]; omega
theorem mul_u64 {a b:Int} (h0:0 ≤ a * b) (h1:a * b < 18446744073709551616):mulI .u64 a b = some (a * b):=by
 unfold mulI; rw [if_pos (inr_u64 h0 h1)]
theorem add_u64 {a b:Int} (h0:0 ≤ a + b) (h1:a + b < 18446744073709551616):addI .u64 a b = some (a + b):=by
 unfold addI; rw [if_pos (inr_u64 h0 h1)]
theorem sub_u8 {a b:Int} (h0:0 ≤ a - b) (h1:a - b < 256):subI .u8 a b = some (a - b):=by
 unfold subI
 rw [if_pos]
 show IntKind.wrap .u8 (a - b) = a - b
 rw [IntKind.wrap_u8]; omega
theorem num_step {n:Int} {c:Nat} {i:Nat} (h0:0 ≤ n) (h1:n ≤ 1125899906842624) (hi:i < 1000000) {α:Type} (x:α) (y:Int × Int→α) :
  (bif decide ((c:Int) < (48:Int)) then some x else bif decide ((57:Int) < (c:Int)) then some x else
   (mulI .u64 (10:Int) n).bind fun x_6=>(subI .u8 (c:Int) (48:Int)).bind fun x_7=>(addI .u64 x_6 (Go.IntKind.wrap .u64 x_7)).bind fun x_8=>bif decide ((1125899906842624:Int) < x_8) then some x else (addI .i64 (i:Int) (1:Int)).bind fun x_9=>some (y (x_8,x_9))) =
  some (if c < 48 ∨ 57 < c then x else if 1125899906842624 < 10 * n + ((c:Int) - 48) then x else y (10 * n + ((c:Int) - 48),(i:Int) + 1)):=by
 by_cases c1:c < 48
 ·rw [decide_eq_true (show (c:Int) < 48 by omega),if_pos (.inl c1)]; rfl
 ·rw [decide_eq_false (show ¬ (c:Int) < 48 by omega)]
  by_cases c2:57 < c
  ·rw [decide_eq_true (show (57:Int) < (c:Int) by omega),if_pos (.inr c2)]; rfl
  ·rw [decide_eq_false (show ¬ (57:Int) < (c:Int) by omega),if_neg (by omega)]
   have w1:IntKind.wrap .u64 ((c:Int) - 48) = (c:Int) - 48:=by rw [IntKind.wrap_u64]; omega
   simp only [cond_false]
   rw [mul_u64 (by omega) (by omega),sub_u8 (by omega) (by omega)]
   simp only [Option.bind_some,w1]
   rw [add_u64 (by omega) (by omega)]
   simp only [Option.bind_some,addI_ok (a:=(i:Int)) (b:=1) (by omega)]
   by_cases c3:1125899906842624 < 10 * n + ((c:Int) - 48)
   ·rw [decide_eq_true c3,if_pos c3]; rfl
   ·rw [decide_eq_false c3,if_neg c3]; rfl
theorem num_fin {s:List UInt8} {z:Int × Bool} (hz:z = numL 0 s) (hb:z.2 = false→z.1 = 0) :
  ((some (if z.2 then (.inr z.1:(Int × Bool) ⊕ Int) else .inl (0,false))).bind fun x_13=>Sum.elim (fun r:Int × Bool=>some (r.1,r.2)) (fun n_12:Int=>some (n_12,true)) x_13) = some (numL 0 s):=by
 subst hz
 cases h:(numL 0 s).2 with
 | true=>rw [if_pos rfl]; show some ((numL 0 s).1,true) = _; rw [← h]
 | false=>rw [if_neg (by simp),show numL 0 s = (0,false) from Prod.ext (hb h) h]; rfl
theorem words_num {s:List UInt8} (hs:s.length < 1000000):words_Number s = some (numB s):=by
 have hlen:(bytesI s).length = s.length:=by simp [bytesI]
 have hl:=num_loop (s:=s) (fun p=>br (decide (p.2 < ((bytesI s).length:Int))) ((idx (bytesI s) p.2).bind fun x_5=>br (decide (x_5 < (48:Int))) (some (.done (.inl ((0:Int),false)))) (br (decide ((57:Int) < x_5)) (some (.done (.inl ((0:Int),false))))
   ((mulI .u64 (10:Int) p.1).bind fun x_6=>(subI .u8 x_5 (48:Int)).bind fun x_7=>(addI .u64 x_6 (Go.IntKind.wrap .u64 x_7)).bind fun x_8=>br (decide ((1125899906842624:Int) < x_8)) (some (.done (.inl ((0:Int),false)))) ((addI .i64 p.2 (1:Int)).bind fun x_9=>some (.next (x_8,x_9)))))) (some (.done (.inr p.1))))
  (fun n i hi h0 h1=>by
   have hidx:idx (bytesI s) (i:Int) = some ((s[i].toNat:Int)):=by rw [idxS_bytes,idxS_nat,List.getElem?_eq_getElem hi]; rfl
   simp only [hlen,hidx,decide_eq_true (show (i:Int) < (s.length:Int) by omega),br,cond_true,Option.bind_some]
   exact num_step h0 h1 (by omega) _ (fun p=>Step.next p))
  (fun n=>by simp only [hlen,decide_eq_false (show ¬ (s.length:Int) < (s.length:Int) by omega),br,cond_false]) s.length 0 0 (by omega) (by omega) (by omega)
 rw [List.drop_zero] at hl
 unfold words_Number numB
 cases s with
 | nil=>rfl
 | cons c s =>
  have e1:(c :: s == ([]:List UInt8)) = false:=rfl
  have e2:idxS (c :: s) 0 = some ((c.toNat:Int)):=rfl
  rw [e1,e2]
  have fin:=num_fin (s:=c :: s) rfl (numL_bad (l:=c :: s) (n:=0))
  simp only [br,cond_false,Option.bind_some] at hl fin ⊢
  by_cases hc:c = 48
  ·subst hc
   rw [show (((48:UInt8).toNat:Int) == (48:Int)) = true from rfl]
   by_cases hlt:1 < (48 :: s).length
   ·rw [decide_eq_true (by omega),if_pos (.inr ⟨rfl,hlt⟩)]; rfl
   ·rw [decide_eq_false (by omega),if_neg (by simp at hlt ⊢; omega)]
    simp only [cond_true,cond_false]
    refine Eq.trans ?_ fin
    exact congrArg (fun z:Option ((Int × Bool) ⊕ Int)=>z.bind fun x_13=>Sum.elim (fun r:Int × Bool=>some (r.1,r.2)) (fun n_12:Int=>some (n_12,true)) x_13) hl
  ·rw [show ((c.toNat:Int) == (48:Int)) = false from beq_eq_false_iff_ne.2 (u8_ne (n:=48) (by omega) hc),if_neg (by simp [hc])]
   simp only [cond_false]
   refine Eq.trans ?_ fin
   exact congrArg (fun z:Option ((Int × Bool) ⊕ Int)=>z.bind fun x_13=>Sum.elim (fun r:Int × Bool=>some (r.1,r.2)) (fun n_12:Int=>some (n_12,true)) x_13) hl
theorem ref_num (s:List UInt8):packhorseref03_Number s = words_Number s:=by
 unfold packhorseref03_Number words_Number
 have hlen:(bytesI s).length = s.length:=by simp [bytesI]
 rw [hlen]
 simp only [idxS_bytes]
 have e:(fun (p:Int × Int)=>br (decide (p.2 < (s.length:Int))) ((idxS s p.2).bind fun x_5=>br (decide (x_5 < (48:Int))) (some (Step.done (Sum.inl ((0:Int),false)))) ((idxS s p.2).bind fun x_6=>br (decide ((57:Int) < x_6)) (some (.done (.inl ((0:Int),false)))) ((mulI .u64 (10:Int) p.1).bind fun x_7=>(idxS s p.2).bind fun x_8=>(subI .u8 x_8 (48:Int)).bind fun x_9=>(addI .u64 x_7 (Go.IntKind.wrap .u64 x_9)).bind fun x_10=>br (decide ((1125899906842624:Int) < x_10)) (some (.done (.inl ((0:Int),false)))) ((addI .i64 p.2 (1:Int)).bind fun x_11=>some (Step.next (x_10,x_11)))))) (some (Step.done (Sum.inr p.1)):Option (Step (Int × Int) ((Int × Bool) ⊕ Int)))) =
  (fun (p:Int × Int)=>br (decide (p.2 < (s.length:Int))) ((idxS s p.2).bind fun x_5=>br (decide (x_5 < (48:Int))) (some (.done (.inl ((0:Int),false)))) (br (decide ((57:Int) < x_5)) (some (.done (.inl ((0:Int),false)))) ((mulI .u64 (10:Int) p.1).bind fun x_6=>(subI .u8 x_5 (48:Int)).bind fun x_7=>(addI .u64 x_6 (Go.IntKind.wrap .u64 x_7)).bind fun x_8=>br (decide ((1125899906842624:Int) < x_8)) (some (.done (.inl ((0:Int),false)))) ((addI .i64 p.2 (1:Int)).bind fun x_9=>some (.next (x_8,x_9)))))) (some (.done (.inr p.1)))):=by
  funext p
  cases h:idxS s p.2 with
  | none=>rfl
  | some c =>
   simp only [Option.bind_some]
 have e':∀ q,iter _ q = iter _ q:=fun q=>congrArg (fun F=>iter F q) e
 simp only [e']
end Go.Proofs.YtjcbpfhlgebgdaaDoor
namespace Go.Proofs.YtjcbpfhlgebgdaaDoor
open Go Go.Eng Go.RowKit Go.X Go.Seq
theorem wrap_small {n:Int} (h0:0 ≤ n) (h1:n ≤ 1125899906842624):wrap64 n = n:=IntWalk.wrap64_in _ (by omega)
theorem index_any {ws:List Word} (hl:ws.length ≤ 1000):∃ i,slices_IndexFunc_f121 ws = some i∧(decide ((0:Int) ≤ i) = ws.any fun x=>!decide (x.Key = [])):=by
 have hk:∀ x:Word,(!(x.Key == ([]:List UInt8))) = !decide (x.Key = []):=fun x=>by
  cases hx:x.Key with
  | nil=>rfl
  | cons c k=>rfl
 have loop:∀ (F:Int→Option (Step Int (Int ⊕ Unit))),(∀ i:Nat,(h:i < ws.length)→F (i:Int) = some (if (!decide (ws[i].Key = [])) = true then .done (.inl (i:Int)) else .next ((i:Int) + 1)))→F (ws.length:Int) = some (.done (.inr ())) →
   ∀ (k i:Nat),i + k = ws.length→∃ z,iter F (i:Int) = some z∧(((ws.drop i).any fun x=>!decide (x.Key = [])) = true∧(∃ j:Int,z = .inl j∧0 ≤ j) ∨ ((ws.drop i).any fun x=>!decide (x.Key = [])) = false∧z = .inr ()):=by
  intro F hF hE k
  induction k with
  | zero =>
   intro i hi
   have:i = ws.length:=by omega
   subst this
   rw [iter_eq,hE,List.drop_eq_nil_of_le (Nat.le_refl _)]
   exact ⟨_,rfl,.inr ⟨rfl,rfl⟩⟩
  | succ k ih =>
   intro i hi
   have hlt:i < ws.length:=by omega
   rw [iter_eq,hF i hlt,List.drop_eq_getElem_cons hlt,List.any_cons]
   cases hx:(!decide (ws[i].Key = [])) with
   | true=>exact ⟨_,rfl,.inl ⟨rfl,(i:Int),rfl,by omega⟩⟩
   | false =>
    obtain ⟨z,h1,h2⟩:=ih (i + 1) (by omega)
    refine ⟨z,?_,?_⟩
    ·simp only [Bool.false_eq_true,if_false]
     rw [show (i:Int) + 1 = ((i + 1:Nat):Int) by omega,h1]
    ·simpa using h2
 obtain ⟨z,h1,h2⟩:=loop (fun x_2=>br (decide (x_2 < (ws.length:Int))) ((idx ws x_2).bind fun x_3=>(plan_contact_1 x_3).bind fun x_4=>br x_4 (some (.done (.inl x_2))) ((addI .i64 x_2 (1:Int)).bind fun x_5=>some (.next x_5))) (some (.done (.inr ()))))
  (fun i hi=>by
   have hidx:idx ws (i:Int) = some ws[i]:=by unfold idx; rw [if_pos (by omega)]; exact List.getElem?_eq_getElem hi
   have e:plan_contact_1 ws[i] = some (!decide (ws[i].Key = [])):=by unfold plan_contact_1; rw [hk]
   simp only [decide_eq_true (show (i:Int) < (ws.length:Int) by omega),hidx,br,cond_true,Option.bind_some,e,addI_ok (a:=(i:Int)) (b:=1) (by omega)]
   cases (!decide (ws[i].Key = [])) <;> rfl)
  (by simp only [decide_eq_false (show ¬ (ws.length:Int) < (ws.length:Int) by omega),br,cond_false]) ws.length 0 (by omega)
 rw [List.drop_zero] at h2
 simp only [Int.natCast_zero] at h1
 unfold slices_IndexFunc_f121
 rw [h1]
 simp only [Option.bind_some]
 rcases h2 with ⟨a1,j,rfl,a2⟩ | ⟨a1,rfl⟩
 ·exact ⟨j,rfl,by rw [a1]; exact decide_eq_true a2⟩
 ·exact ⟨-1,rfl,by rw [a1]; rfl⟩
theorem contains_any {ws:List Word} (hl:ws.length ≤ 1000):slices_ContainsFunc_f121 ws = some (ws.any fun x=>!decide (x.Key = [])):=by
 obtain ⟨i,h1,h2⟩:=index_any hl
 unfold slices_ContainsFunc_f121
 rw [h1]
 simp only [Option.bind_some,h2]
end Go.Proofs.YtjcbpfhlgebgdaaDoor
namespace Go.Proofs.YtjcbpfhlgebgdaaDoor
open Go Go.Eng Go.RowKit Go.X Go.Seq
def mn (x:Int):Int:=min x 2199023255552
theorem nums_eq:∀ (ws:List Word) (i:Nat) (m:List Int),(∀ w ∈ ws,w.Text.length ≤ 1001) →
  (∃ a,numsF ws i (m.map mn) = some (.inl a)∧numsR ws (i + 1) (0 :: m) = some (.inl a)) ∨
  (∃ m',numsF ws i (m.map mn) = some (.inr (m'.map mn))∧numsR ws (i + 1) (0 :: m) = some (.inr (0 :: m'))∧m'.length = m.length)
 | [],i,m,_=>.inr ⟨m,rfl,rfl,rfl⟩
 | w :: ws,i,m,h=>by
  have hl:w.Text.length < 1000000:=by have:=h w (List.mem_cons_self ..); omega
  have hr:=numB_range w.Text
  unfold numsF numsR
  rw [ref_num,words_num hl]
  simp only [Option.bind_some]
  cases hb:(numB w.Text).2 with
  | false=>exact .inl ⟨w.At,rfl,rfl⟩
  | true =>
   simp only [if_true]
   rw [wrap_small hr.1 hr.2,wrap_small (n:=min (numB w.Text).1 2199023255552) (by omega) (by omega)]
   have e1:(m.map mn).set i (min (numB w.Text).1 2199023255552) = (m.set i (numB w.Text).1).map mn:=List.map_set.symm
   have e2:(0 :: m).set (i + 1) (numB w.Text).1 = 0 :: m.set i (numB w.Text).1:=rfl
   rw [e1,e2]
   have ih:=nums_eq ws (i + 1) (m.set i (numB w.Text).1) fun x hx=>h x (List.mem_cons_of_mem _ hx)
   rw [List.length_set] at ih
   exact ih
theorem one_val (c:Contact):(plan_One c = some 0∧OKC c) ∨ (plan_One c = some 2∧¬ OKC c):=by
 obtain ⟨r,e,⟨rfl,h⟩ | ⟨rfl,h⟩⟩:=one_s c
 ·exact .inl ⟨e,h⟩
 ·exact .inr ⟨e,h⟩
theorem rone_val (c:Contact):(packhorseref22_One c = some 0∧OKC c) ∨ (packhorseref22_One c = some 2∧¬ OKC c):=by
 obtain ⟨r,e,⟨rfl,h⟩ | ⟨rfl,h⟩⟩:=rone_s c
 ·exact .inl ⟨e,h⟩
 ·exact .inr ⟨e,h⟩
theorem okc_mn {a b c d e f:Int}:(OKC ⟨mn a,mn b,mn c,mn d,mn e,mn f⟩ ↔ OKC ⟨a,b,c,d,e,f⟩)∧(OKC ⟨a,b,c,d,e,f⟩→(⟨mn a,mn b,mn c,mn d,mn e,mn f⟩:Contact) = ⟨a,b,c,d,e,f⟩):=by
 unfold mn
 refine ⟨⟨fun h=>?_,fun h=>?_⟩,fun h=>?_⟩
 ·obtain ⟨h1,h2,h3,h4,h5,h6⟩:=h
  dsimp only at h1 h2 h3 h4 h5 h6
  exact ⟨by dsimp only; omega,by dsimp only; omega,by dsimp only; omega,by dsimp only; omega,by dsimp only; omega,by dsimp only; omega⟩
 ·obtain ⟨h1,h2,h3,h4,h5,h6⟩:=h
  dsimp only at h1 h2 h3 h4 h5 h6
  exact ⟨by dsimp only; omega,by dsimp only; omega,by dsimp only; omega,by dsimp only; omega,by dsimp only; omega,by dsimp only; omega⟩
 ·obtain ⟨h1,h2,h3,h4,h5,h6⟩:=h
  dsimp only at h1 h2 h3 h4 h5 h6
  simp only [Contact.mk.injEq]
  omega
theorem contact_rel (r:Row) (hne:r.Words ≠ []) (hok:okRow r.Words):∃ c f c' f',plan_contact r = some (c,f)∧packhorseref22_contact r = some (c',f')∧((f.Err ≠ 0∧f' = f) ∨ (f.Err = 0∧f'.Err = 0∧c' = c)):=by
 obtain ⟨at0,ws⟩:=r
 dsimp only at hne hok
 cases ws with
 | nil=>exact absurd rfl hne
 | cons w ws =>
  unfold plan_contact packhorseref22_contact
  dsimp only
  rw [contains_any hok.1]
  simp only [Option.bind_some]
  by_cases h7:(w :: ws).length = 7
  ·by_cases ht:w.Text = contactT
   ·cases hk:((w :: ws).any fun x=>!decide (x.Key = [])) with
    | true =>
     rw [if_neg (by simp),if_pos ⟨h7,ht⟩]
     exact ⟨_,_,_,_,rfl,rfl,.inl ⟨by simp,rfl⟩⟩
    | false =>
     rw [if_pos ⟨h7,rfl,ht⟩,if_pos ⟨h7,ht⟩,if_neg (by simp)]
     have hn:=nums_eq ws 0 [0,0,0,0,0,0] fun x hx=>(hok.2 x (List.mem_cons_of_mem _ hx)).2
     have e0:([0,0,0,0,0,0]:List Int).map mn = [0,0,0,0,0,0]:=rfl
     rw [e0] at hn
     rcases hn with ⟨a,h1,h2⟩ | ⟨m',h1,h2,h3⟩
     ·rw [h1,h2]
      exact ⟨_,_,_,_,rfl,rfl,.inl ⟨by simp,rfl⟩⟩
     ·rw [h1,h2]
      obtain ⟨a0,a1,a2,a3,a4,a5,rfl⟩:∃ a0 a1 a2 a3 a4 a5,m' = [a0,a1,a2,a3,a4,a5]:=by
       rcases m' with _ | ⟨a0,_ | ⟨a1,_ | ⟨a2,_ | ⟨a3,_ | ⟨a4,_ | ⟨a5,_ | ⟨a6,m'⟩⟩⟩⟩⟩⟩⟩
       all_goals first | (exact ⟨_,_,_,_,_,_,rfl⟩) | (simp at h3; done) | (exfalso; simp only [List.length_cons,List.length_nil] at h3; omega)
      obtain ⟨k1,k2⟩:=okc_mn (a:=a0) (b:=a1) (c:=a2) (d:=a3) (e:=a4) (f:=a5)
      simp only [Option.bind_some,List.map_cons,List.map_nil]
      rcases one_val ⟨mn a0,mn a1,mn a2,mn a3,mn a4,mn a5⟩ with ⟨o1,o2⟩ | ⟨o1,o2⟩ <;> rcases rone_val ⟨a0,a1,a2,a3,a4,a5⟩ with ⟨p1,p2⟩ | ⟨p1,p2⟩
      ·rw [o1,p1]
       exact ⟨_,_,_,_,rfl,rfl,.inr ⟨rfl,rfl,(k2 p2).symm⟩⟩
      ·exact absurd (k1.1 o2) p2
      ·exact absurd (k1.2 p2) o2
      ·rw [o1,p1]
       exact ⟨_,_,_,_,rfl,rfl,.inl ⟨by simp,rfl⟩⟩
   ·rw [if_neg (fun h=>ht h.2.2),if_neg (fun h=>ht h.2)]
    exact ⟨_,_,_,_,rfl,rfl,.inl ⟨by simp,rfl⟩⟩
  ·rw [if_neg (fun h=>h7 h.1),if_neg (fun h=>h7 h.1)]
   exact ⟨_,_,_,_,rfl,rfl,.inl ⟨by simp,rfl⟩⟩
theorem parse_loop {rows:List Row} (hrows:∀ y ∈ rows,y.Words ≠ []∧okRow y.Words) (hlen:rows.length ≤ 100000) (f0:Fault)
  (F G:List Contact × Int × Fault→Option (Step (List Contact × Int × Fault) ((List Contact × Fault) ⊕ (List Contact × Fault))))
  (hF:∀ out i f,F (out,i,f) = br (decide (i < (rows.length:Int))) ((idx rows i).bind fun x_7=>(plan_contact x_7).bind fun p=>br (p.2.Err != (0:Int)) (some (.done (.inl (([]:List Contact),p.2)))) ((app 48 out ([p.1]:List Contact)).bind fun x_10=>(addI .i64 i (1:Int)).bind fun x_11=>some (.next (x_10,x_11,f)))) (some (.done (.inr (out,f)))))
  (hG:∀ out i f,G (out,i,f) = br (decide (i < (rows.length:Int))) ((idx rows i).bind fun x_7=>(packhorseref22_contact x_7).bind fun p=>br (p.2.Err != (0:Int)) (some (.done (.inl (([]:List Contact),p.2)))) ((app 48 out ([p.1]:List Contact)).bind fun x_10=>(addI .i64 i (1:Int)).bind fun x_11=>some (.next (x_10,x_11,f)))) (some (.done (.inr (out,f))))) :
  ∀ (k i:Nat) (out:List Contact),i + k = rows.length→out.length = i→∃ z,iter F (out,(i:Int),f0) = some z∧iter G (out,(i:Int),f0) = some z∧((∃ f,z = .inl ([],f)) ∨ (∃ out',z = .inr (out',f0)∧out'.length = rows.length))
 | 0,i,out,hi,ho=>by
  have:i = rows.length:=by omega
  subst this
  rw [iter_eq,hF,iter_eq,hG,decide_eq_false (by omega)]
  exact ⟨_,rfl,rfl,.inr ⟨out,rfl,ho⟩⟩
 | k + 1,i,out,hi,ho=>by
  have hlt:i < rows.length:=by omega
  have hidx:idx rows (i:Int) = some rows[i]:=by unfold idx; rw [if_pos (by omega)]; exact List.getElem?_eq_getElem hlt
  obtain ⟨h1,h2⟩:=hrows rows[i] (List.getElem_mem hlt)
  obtain ⟨c,f,c',f',e1,e2,h3⟩:=contact_rel rows[i] h1 h2
  have happ:∀ c:Contact,app 48 out [c] = some (out++[c]):=fun c=>by unfold app; rw [if_pos (by simp only [List.length_cons,List.length_nil]; omega)]
  rw [iter_eq,hF,iter_eq,hG,decide_eq_true (by omega),hidx]
  simp only [br,cond_true,Option.bind_some,e1,e2,happ,addI_ok (a:=(i:Int)) (b:=1) (by omega)]
  rcases h3 with ⟨h3,rfl⟩ | ⟨h3,h4,rfl⟩
  ·rw [show (f'.Err != (0:Int)) = true from bne_iff_ne.2 h3]
   exact ⟨_,rfl,rfl,.inl ⟨_,rfl⟩⟩
  ·rw [h3,h4]
   simp only [bne_self_eq_false,cond_false]
   have ih:=parse_loop hrows hlen f0 F G hF hG k (i + 1) (out++[c']) (by omega) (by simp [ho])
   rw [show (i:Int) + 1 = ((i + 1:Nat):Int) by omega]
   exact ih
theorem parse_eq (text:List UInt8) (hlen:text.length ≤ 2000):∃ l f,plan_Parse text = some (l,f)∧packhorseref22_Parse text = some (l,f)∧l.length ≤ 2001:=by
 obtain ⟨⟨rows,fr⟩,r1,r2,r3,r4,r5⟩:=Rows_eq text
 dsimp only at r3 r4 r5
 unfold plan_Parse packhorseref22_Parse
 dsimp only
 rw [r1,r2]
 simp only [Option.bind_some]
 by_cases he:fr.Err = 0
 ·have hb:(fr.Err != (0:Int)) = false:=by rw [he]; rfl
  rw [hb]
  simp only [br,cond_false]
  obtain ⟨z,h1,h2,h3⟩:=parse_loop r4 (by omega) ⟨0,0⟩ (fun s=>br (decide (s.2.1 < (rows.length:Int))) ((idx rows s.2.1).bind fun x_7=>(plan_contact x_7).bind fun p=>br (p.2.Err != (0:Int)) (some (.done (.inl (([]:List Contact),p.2)))) ((app 48 s.1 ([p.1]:List Contact)).bind fun x_10=>(addI .i64 s.2.1 (1:Int)).bind fun x_11=>some (.next (x_10,x_11,s.2.2)))) (some (.done (.inr (s.1,s.2.2))))) (fun s=>br (decide (s.2.1 < (rows.length:Int))) ((idx rows s.2.1).bind fun x_7=>(packhorseref22_contact x_7).bind fun p=>br (p.2.Err != (0:Int)) (some (.done (.inl (([]:List Contact),p.2)))) ((app 48 s.1 ([p.1]:List Contact)).bind fun x_10=>(addI .i64 s.2.1 (1:Int)).bind fun x_11=>some (.next (x_10,x_11,s.2.2)))) (some (.done (.inr (s.1,s.2.2))))) (fun out i f=>rfl) (fun out i f=>rfl) rows.length 0 [] (by omega) rfl
  simp only [br,Int.natCast_zero] at h1 h2
  rw [h1,h2]
  simp only [Option.bind_some]
  rcases h3 with ⟨f,rfl⟩ | ⟨out',rfl,ho⟩
  ·exact ⟨_,_,rfl,rfl,by simp⟩
  ·simp only [Sum.elim_inr]
   obtain ⟨rc,c1,c2⟩:=check_s out'
   obtain ⟨rc',c1',c2'⟩:=rcheck_s out'
   obtain rfl:=CR.det c2 c2'
   obtain ⟨e,n⟩:=rc
   rw [c1,c1']
   simp only [Option.bind_some]
   have hidx:e ≠ 0→e ≠ 5→∃ w,((idx rows n).bind fun x_18=>(idx x_18.Words (0:Int)).bind fun x_19=>some (([]:List Contact),(⟨e,x_19.At⟩:Fault))) = some w∧w.1.length ≤ 2001:=fun h0 h5=>by
    rcases c2 with ⟨_,hq⟩ | ⟨_,_,hq⟩ | ⟨_,i,hi,x,hx,_⟩
    ·cases hq; exact absurd rfl h5
    ·cases hq; exact absurd rfl h0
    ·have hi':n = (i:Int):=hi
     subst hi'
     have hil:i < rows.length:=by rw [← ho]; exact (List.getElem?_eq_some_iff.1 hx).1
     have e1:idx rows (i:Int) = some rows[i]:=by unfold idx; rw [if_pos (by omega)]; exact List.getElem?_eq_getElem hil
     rw [e1]
     simp only [Option.bind_some]
     have hne:=(r4 rows[i] (List.getElem_mem hil)).1
     cases hw:rows[i].Words with
     | nil=>exact absurd hw hne
     | cons w0 ws=>exact ⟨_,rfl,by simp⟩
   by_cases h0:e = 0
   ·subst h0
    exact ⟨_,_,rfl,rfl,by omega⟩
   ·by_cases h5:e = 5
    ·subst h5
     exact ⟨_,_,rfl,rfl,by simp⟩
    ·obtain ⟨⟨l,f⟩,hw,hl⟩:=hidx h0 h5
     have b0:(e == (0:Int)) = false:=beq_eq_false_iff_ne.2 h0
     have b5:(e == (5:Int)) = false:=beq_eq_false_iff_ne.2 h5
     have b0':(e != (0:Int)) = true:=bne_iff_ne.2 h0
     simp only [b0,b5,b0',cond_false,cond_true]
     exact ⟨l,f,hw,hw,hl⟩
 ·have hb:(fr.Err != (0:Int)) = true:=bne_iff_ne.2 he
  rw [hb]
  exact ⟨_,_,rfl,rfl,by simp⟩
theorem same_w (a:List Contact) (h:a.length ≤ 10000):packhorsekit_SamePlan (a,a) = some true:=by
 refine W.eq ?_
 unfold packhorsekit_SamePlan
 dsimp only
 refine W_if (fun h=>absurd rfl h) fun _=>?_
 refine W_loop (fun i:Int=>0 ≤ i∧i ≤ (a.length:Int)) (fun i=>a.length - i.toNat) ?_ (by omega)
 rintro i ⟨i1,i2⟩
 refine W_if (fun hi=>?_) fun hi=>W_done (W_ret rfl)
 refine W_idx (by omega) (by omega) fun x hx=>?_
 refine W_idx (by omega) (by omega) fun x' hx'=>?_
 rw [hx] at hx'; cases hx'
 simp only [beq_self_eq_true,Bool.and_self,Bool.not_true]
 refine W_brF ?_
 exact W_op fun j hj=>W_next ⟨by omega,by omega⟩
theorem planParses_w (text:List UInt8):packhorselaw22_PlanParses text = some true:=by
 unfold packhorselaw22_PlanParses
 by_cases hl:(2000:Int) < (text.length:Int)
 ·rw [decide_eq_true hl,awake_w]; rfl
 ·rw [decide_eq_false hl]
  obtain ⟨l,f,h1,h2,h3⟩:=parse_eq text (by omega)
  rw [h1,h2,awake_w]
  simp only [Option.bind_some,br,cond_false,same_w l (by omega),cond_true,beq_self_eq_true,Bool.and_self]
end Go.Proofs.YtjcbpfhlgebgdaaDoor
