import Derived.WalkKit
import Derived.AtR
import Derived.Orders
import Derived.RangeFuncIn
import Derived.KernelRfl
noncomputable section
namespace Go.Run
open Go.RowKit
inductive T (α:Type) where
 | nil
 | node (l:T α) (v:Option α) (r:T α)
def T.get {α:Type} (t:T α):Nat→Option α :=
 T.rec (motive:=fun _=>Nat→Option α) (fun _=>none) (fun _ v _ gl gr n=>cond (Nat.beq n 0) v (cond (Nat.beq (n % 2) 1) (gl (n / 2)) (gr (n / 2 - 1)))) t
def T.setF {α:Type} (f:Nat):T α→Nat→α→T α :=
 Nat.rec (motive:=fun _=>T α→Nat→α→T α) (fun t _ _=>t) (fun _ ih t n x=>T.casesOn (motive:=fun _=>T α) t
  (cond (Nat.beq n 0) (.node .nil (some x) .nil) (cond (Nat.beq (n % 2) 1) (.node (ih .nil (n / 2) x) none .nil) (.node .nil none (ih .nil (n / 2 - 1) x))))
  (fun l v r=>cond (Nat.beq n 0) (.node l (some x) r) (cond (Nat.beq (n % 2) 1) (.node (ih l (n / 2) x) v r) (.node l v (ih r (n / 2 - 1) x))))) f
theorem T.get_node0 {α:Type} (l:T α) (v:Option α) (r:T α) (n:Nat):(T.node l v r).get n = cond (Nat.beq n 0) v (cond (Nat.beq (n % 2) 1) (l.get (n / 2)) (r.get (n / 2 - 1))):=rfl
theorem T.setF_nil {α:Type} (f n:Nat) (x:α):T.setF (f + 1) .nil n x = cond (Nat.beq n 0) (.node .nil (some x) .nil) (cond (Nat.beq (n % 2) 1) (.node (T.setF f .nil (n / 2) x) none .nil) (.node .nil none (T.setF f .nil (n / 2 - 1) x))):=rfl
theorem T.setF_node {α:Type} (f:Nat) (l:T α) (v:Option α) (r:T α) (n:Nat) (x:α):T.setF (f + 1) (.node l v r) n x = cond (Nat.beq n 0) (.node l (some x) r) (cond (Nat.beq (n % 2) 1) (.node (T.setF f l (n / 2) x) v r) (.node l v (T.setF f r (n / 2 - 1) x))):=rfl
def T.set {α:Type} (t:T α) (n:Nat) (x:α):T α:=T.setF (n + 1) t n x
theorem beqF {n m:Nat} (h:¬ n = m):Nat.beq n m = false:=by
 cases hb:Nat.beq n m
 ·rfl
 ·exact absurd (Nat.eq_of_beq_eq_true hb) h
theorem T.get_nil {α:Type} (n:Nat):(T.nil:T α).get n = none:=rfl
theorem T.get_node {α:Type} (l:T α) (v:Option α) (r:T α) (n:Nat) :
  (T.node l v r).get n = if n = 0 then v else if n % 2 = 1 then l.get (n / 2) else r.get (n / 2 - 1):=by
 rw [T.get_node0]
 by_cases h:n = 0
 ·subst h; rfl
 ·have:Nat.beq n 0 = false:=beqF h
  rw [this,if_neg h]
  by_cases h1:n % 2 = 1
  ·rw [if_pos h1,h1]; rfl
  ·have:Nat.beq (n % 2) 1 = false:=beqF h1
   rw [this,if_neg h1]; rfl
theorem T.setF_succ {α:Type} (f:Nat) (t:T α) (n:Nat) (x:α):∃ l v r,(∀ m,t.get m = (T.node l v r).get m) ∧
  T.setF (f + 1) t n x = if n = 0 then .node l (some x) r else if n % 2 = 1 then .node (T.setF f l (n / 2) x) v r else .node l v (T.setF f r (n / 2 - 1) x):=by
 cases t with
 | nil =>
  refine ⟨.nil,none,.nil,fun m=>by rw [T.get_node]; simp [T.get_nil],?_⟩
  rw [T.setF_nil]
  by_cases h:n = 0
  ·subst h; rfl
  ·have:Nat.beq n 0 = false:=beqF h
   rw [this,if_neg h]
   by_cases h1:n % 2 = 1
   ·rw [if_pos h1,h1]; rfl
   ·have:Nat.beq (n % 2) 1 = false:=beqF h1
    rw [this,if_neg h1]; rfl
 | node l v r =>
  refine ⟨l,v,r,fun m=>rfl,?_⟩
  rw [T.setF_node]
  by_cases h:n = 0
  ·subst h; rfl
  ·have:Nat.beq n 0 = false:=beqF h
   rw [this,if_neg h]
   by_cases h1:n % 2 = 1
   ·rw [if_pos h1,h1]; rfl
   ·have:Nat.beq (n % 2) 1 = false:=beqF h1
    rw [this,if_neg h1]; rfl
theorem T.get_setF {α:Type} (x:α):∀ (f:Nat) (t:T α) (n:Nat),n + 1 < 2 ^ f→∀ m,(T.setF f t n x).get m = if m = n then some x else t.get m
 | 0,_,n,h,_=>by simp at h
 | f + 1,t,n,h,m=>by
  obtain ⟨l,v,r,h1,h2⟩:=T.setF_succ f t n x
  rw [h2,h1 m]
  rw [Nat.pow_succ] at h
  by_cases h0:n = 0
  ·subst h0
   rw [if_pos rfl,T.get_node,T.get_node]
   by_cases hm:m = 0
   ·rw [if_pos hm,if_pos hm]
   ·rw [if_neg hm,if_neg hm,if_neg hm]
  ·rw [if_neg h0]
   by_cases h3:n % 2 = 1
   ·rw [if_pos h3,T.get_node,T.get_node]
    by_cases hm:m = 0
    ·rw [if_pos hm,if_pos hm,if_neg (by omega)]
    ·rw [if_neg hm,if_neg hm]
     by_cases hm1:m % 2 = 1
     ·rw [if_pos hm1,if_pos hm1,T.get_setF x f l (n / 2) (by omega) (m / 2)]
      by_cases he:m / 2 = n / 2
      ·rw [if_pos he,if_pos (by omega)]
      ·rw [if_neg he,if_neg (by omega)]
     ·rw [if_neg hm1,if_neg hm1,if_neg (by omega)]
   ·rw [if_neg h3,T.get_node,T.get_node]
    by_cases hm:m = 0
    ·rw [if_pos hm,if_pos hm,if_neg (by omega)]
    ·rw [if_neg hm,if_neg hm]
     by_cases hm1:m % 2 = 1
     ·rw [if_pos hm1,if_pos hm1,if_neg (by omega)]
     ·rw [if_neg hm1,if_neg hm1,T.get_setF x f r (n / 2 - 1) (by omega) (m / 2 - 1)]
      by_cases he:m / 2 - 1 = n / 2 - 1
      ·rw [if_pos he,if_pos (by omega)]
      ·rw [if_neg he,if_neg (by omega)]
def small (_:Nat):Bool:=true
theorem T.get_set {α:Type} {t:T α} {n:Nat} {x:α} (_h:small n = true) (m:Nat):(t.set n x).get m = if m = n then some x else t.get m :=
 T.get_setF x (n + 1) t n Nat.lt_two_pow_self m
def T.row {α:Type} (t:T α):Nat→Nat→Option (List α)
 | _,0=>some []
 | off,n + 1=>match t.get off,t.row (off + 1) n with
  | some x,some l=>some (x :: l)
  | _,_=>none
theorem T.row_spec {α:Type} {t:T α}:∀ (n off:Nat) (l:List α),t.row off n = some l→l.length = n∧∀ i,i < n→t.get (off + i) = l[i]?
 | 0,off,l,h=>by
  simp only [T.row,Option.some.injEq] at h; subst h
  exact ⟨rfl,fun i hi=>by omega⟩
 | n + 1,off,l,h=>by
  simp only [T.row] at h
  split at h
  ·rename_i x l' h1 h2
   simp only [Option.some.injEq] at h; subst h
   obtain ⟨q1,q2⟩:=T.row_spec n (off + 1) l' h2
   refine ⟨by simp [q1],fun i hi=>?_⟩
   cases i with
   | zero=>simpa using h1
   | succ i =>
    rw [show off + (i + 1) = off + 1 + i from by omega,q2 i (by omega)]
    simp
  ·cases h
def T.setRow {α:Type} (t:T α):Nat→List α→T α
 | _,[]=>t
 | off,x :: l=>(t.set off x).setRow (off + 1) l
theorem T.get_setRow {α:Type}:∀ (l:List α) (t:T α) (off:Nat),small (off + l.length) = true→∀ m,(t.setRow off l).get m = if off ≤ m∧m < off + l.length then l[m - off]? else t.get m
 | [],t,off,_,m=>by
  simp only [T.setRow,List.length_nil]
  rw [if_neg (by omega)]
 | x :: l,t,off,_,m=>by
  simp only [T.setRow]
  rw [T.get_setRow l (t.set off x) (off + 1) rfl,T.get_set rfl]
  simp only [List.length_cons]
  by_cases h1:m = off
  ·subst h1
   rw [if_neg (by omega),if_pos rfl,if_pos (by omega)]
   simp
  ·by_cases h2:off + 1 ≤ m∧m < off + 1 + l.length
   ·rw [if_pos h2,if_pos (by omega)]
    rw [show m - off = (m - (off + 1)) + 1 from by omega]
    simp
   ·rw [if_neg h2,if_neg h1,if_neg (by omega)]
def pureRun {α:Type} (P:Program):Sem α→Option α
 | .pure a=>some a
 | .program k=>pureRun P (k P)
 | .mark _ k=>pureRun P k
 | _=>none
theorem pureRun_run {α:Type} {P:Program} (s:Sem α) {a:α} (h:pureRun P s = some a) (w:World):s.run P w = .ok a w:=by
 induction s with
 | pure b=>simp only [pureRun,Option.some.injEq] at h; subst h; rfl
 | program k ih=>simp only [pureRun] at h; exact ih P h
 | mark m k ih=>simp only [pureRun] at h; exact ih h
 | _=>simp [pureRun] at h
def fnFlat:Fn→Bool
 | .yield _=>false
 | _=>true
def flatF:Nat→Value→Bool
 | 0,_=>false
 | n + 1,v=>match v with
  | .bool _ | .int _ _ | .float _ _ | .complex _ _ _ | .string _ | .pointer none | .slice none 0 0 | .map none | .chan none | .nilFunc | .nilIface=>true
  | .iface _ v=>flatF n v
  | .agg cs=>cs.toList.all (flatF n)
  | .tuple cs=>cs.toList.all (flatF n)
  | .func f first captured=>fnFlat f && first.toList.all (flatF n) && captured.toList.all (flatF n)
  | _=>false
def flat (v:Value):Bool:=flatF 16 v
structure Pl where
 b:Nat
 base:Nat
 ext:Nat
abbrev Lam:=Nat→Option Pl
def isOpen (cap:Nat):Bool:=Nat.beq (cap % 2) 1
def ccap (cap ext:Nat):Nat:=cond (isOpen cap) (cap / 2 + ext) (cap / 2)
theorem ccap_even (n e:Nat):ccap (2 * n) e = n:=by
 have h1:(2 * n) % 2 = 0:=by omega
 have h2:(2 * n) / 2 = n:=by omega
 unfold ccap isOpen
 rw [h1,h2]; rfl
theorem ccap_odd (n e:Nat):ccap (2 * n + 1) e = n + e:=by
 have h1:(2 * n + 1) % 2 = 1:=by omega
 have h2:(2 * n + 1) / 2 = n:=by omega
 unfold ccap isOpen
 rw [h1,h2]; rfl
theorem ccap_open {c e:Nat} (h:isOpen c = true):ccap c e = c / 2 + e:=by unfold ccap; rw [h]; rfl
theorem ccap_closed {c e:Nat} (h:isOpen c = false):ccap c e = c / 2:=by unfold ccap; rw [h]; rfl
theorem isOpen_spec {c:Nat} (h:isOpen c = true):c = 2 * (c / 2) + 1:=by
 have:c % 2 = 1:=Nat.eq_of_beq_eq_true h
 omega
inductive FR (L:Lam):Fn→Fn→Prop where
 | same {f:Fn} (h:fnFlat f = true):FR L f f
 | yield {l:Nat} {p:Pl} (h:L l = some p):FR L (.yield l) (.yield p.b)
inductive VR (L:Lam):Value→Value→Prop where
 | bool (b:Bool):VR L (.bool b) (.bool b)
 | int (k:IntKind) (n:Int):VR L (.int k n) (.int k n)
 | float (k:FloatKind) (b:Nat):VR L (.float k b) (.float k b)
 | complex (k:FloatKind) (a b:Nat):VR L (.complex k a b) (.complex k a b)
 | string (s:ByteArray):VR L (.string s) (.string s)
 | nilp:VR L (.pointer none) (.pointer none)
 | ptr {b o:Nat} {p:Pl} (h:L b = some p):VR L (.pointer (some ⟨b,o,none⟩)) (.pointer (some ⟨p.b,p.base + o,none⟩))
 | nils:VR L (.slice none 0 0) (.slice none 0 0)
 | slice {b o len cap:Nat} {p:Pl} (h:L b = some p):VR L (.slice (some ⟨b,o,none⟩) len cap) (.slice (some ⟨p.b,p.base + o,none⟩) len (ccap cap p.ext))
 | opq (a:Addr) (c:Nat):VR L (.slice (some ⟨0,0,some 1⟩) 0 0) (.slice (some a) 0 c)
 | nilm:VR L (.map none) (.map none)
 | map {b:Nat} {p:Pl} (h:L b = some p):VR L (.map (some b)) (.map (some p.b))
 | nilc:VR L (.chan none) (.chan none)
 | func {f f':Fn} {xs ys xs' ys':Array Value} (hf:FR L f f') (h1:xs.size = xs'.size) (h2:ys.size = ys'.size)
   (hx:∀ (i:Nat) (v x:Value),xs[i]? = some v→xs'[i]? = some x→VR L v x) (hy:∀ (i:Nat) (v x:Value),ys[i]? = some v→ys'[i]? = some x→VR L v x):VR L (.func f xs ys) (.func f' xs' ys')
 | nilf:VR L .nilFunc .nilFunc
 | iface {t:TypeId} {v x:Value} (h:VR L v x):VR L (.iface t v) (.iface t x)
 | nili:VR L .nilIface .nilIface
 | agg {xs xs':Array Value} (h1:xs.size = xs'.size) (hx:∀ (i:Nat) (v x:Value),xs[i]? = some v→xs'[i]? = some x→VR L v x):VR L (.agg xs) (.agg xs')
 | tuple {xs xs':Array Value} (h1:xs.size = xs'.size) (hx:∀ (i:Nat) (v x:Value),xs[i]? = some v→xs'[i]? = some x→VR L v x):VR L (.tuple xs) (.tuple xs')
def AR (L:Lam) (xs ys:Array Value):Prop:=xs.size = ys.size∧∀ (i:Nat) (v x:Value),xs[i]? = some v→ys[i]? = some x→VR L v x
def LR (L:Lam) (xs ys:List Value):Prop:=xs.length = ys.length∧∀ (i:Nat) (v x:Value),xs[i]? = some v→ys[i]? = some x→VR L v x
theorem AR.toList {L:Lam} {xs ys:Array Value} (h:AR L xs ys):LR L xs.toList ys.toList:=⟨by simpa using h.1,fun i v x h1 h2=>h.2 i v x (by simpa using h1) (by simpa using h2)⟩
theorem LR.toArray {L:Lam} {xs ys:List Value} (h:LR L xs ys):AR L xs.toArray ys.toArray:=⟨by simpa using h.1,fun i v x h1 h2=>h.2 i v x (by simpa using h1) (by simpa using h2)⟩
theorem AR.of_toList {L:Lam} {xs ys:Array Value} (h:LR L xs.toList ys.toList):AR L xs ys:=⟨by simpa using h.1,fun i v x h1 h2=>h.2 i v x (by simpa using h1) (by simpa using h2)⟩
theorem LR.nil (L:Lam):LR L [] []:=⟨rfl,fun i v x h=>by simp at h⟩
theorem LR.cons {L:Lam} {v x:Value} {vs xs:List Value} (h:VR L v x) (k:LR L vs xs):LR L (v :: vs) (x :: xs) :=
 ⟨by simp [k.1],fun i u y h1 h2=>by
  cases i with
  | zero=>simp at h1 h2; subst h1; subst h2; exact h
  | succ i=>simp at h1 h2; exact k.2 i u y h1 h2⟩
theorem LR.of_cons {L:Lam} {v x:Value} {vs xs:List Value} (h:LR L (v :: vs) (x :: xs)):VR L v x∧LR L vs xs :=
 ⟨h.2 0 v x (by simp) (by simp),by simpa using h.1,fun i u y h1 h2=>h.2 (i + 1) u y (by simpa using h1) (by simpa using h2)⟩
theorem LR.cons_inv {L:Lam} {v:Value} {vs ys:List Value} (h:LR L (v :: vs) ys):∃ x xs,ys = x :: xs∧VR L v x∧LR L vs xs:=by
 cases ys with
 | nil=>have:=h.1; simp at this
 | cons x xs=>exact ⟨x,xs,rfl,h.of_cons⟩
theorem LR.nil_inv {L:Lam} {ys:List Value} (h:LR L [] ys):ys = []:=List.eq_nil_of_length_eq_zero (by simpa using h.1.symm)
theorem LR.append {L:Lam} {vs xs vs' xs':List Value} (h:LR L vs xs) (k:LR L vs' xs'):LR L (vs++vs') (xs++xs') :=
 ⟨by simp [h.1,k.1],fun i u y h1 h2=>by
  rw [List.getElem?_append] at h1 h2
  rw [h.1] at h1
  split at h1
  ·rename_i hi; rw [if_pos hi] at h2; exact h.2 i u y h1 h2
  ·rename_i hi; rw [if_neg hi] at h2; exact k.2 _ u y h1 h2⟩
theorem LR.get {L:Lam} {vs xs:List Value} (h:LR L vs xs) {i:Nat} {v:Value} (hv:vs[i]? = some v):∃ x,xs[i]? = some x∧VR L v x:=by
 have hlt:i < xs.length:=by rw [← h.1]; exact (List.getElem?_eq_some_iff.1 hv).1
 exact ⟨xs[i],List.getElem?_eq_getElem hlt,h.2 i v _ hv (List.getElem?_eq_getElem hlt)⟩
theorem AR.get {L:Lam} {vs xs:Array Value} (h:AR L vs xs) {i:Nat} {v:Value} (hv:vs[i]? = some v):∃ x,xs[i]? = some x∧VR L v x:=by
 obtain ⟨x,h1,h2⟩:=h.toList.get (i:=i) (v:=v) (by simpa using hv)
 exact ⟨x,by simpa using h1,h2⟩
theorem LR.drop {L:Lam} {vs xs:List Value} (h:LR L vs xs) (n:Nat):LR L (vs.drop n) (xs.drop n) :=
 ⟨by simp [h.1],fun i u y h1 h2=>by rw [List.getElem?_drop] at h1 h2; exact h.2 _ u y h1 h2⟩
theorem LR.take {L:Lam} {vs xs:List Value} (h:LR L vs xs) (n:Nat):LR L (vs.take n) (xs.take n) :=
 ⟨by simp [h.1],fun i u y h1 h2=>by
  rw [List.getElem?_take] at h1 h2
  split at h1
  ·rename_i hi; rw [if_pos hi] at h2; exact h.2 _ u y h1 h2
  ·cases h1⟩
def Lam.le (L L':Lam):Prop:=∀ b p,L b = some p→L' b = some p
theorem Lam.le_refl (L:Lam):L.le L:=fun _ _ h=>h
theorem Lam.le_trans {L L' L'':Lam} (h:L.le L') (k:L'.le L''):L.le L'':=fun b p q=>k b p (h b p q)
theorem FR.mono {L L':Lam} (hl:L.le L') {f f':Fn} (h:FR L f f'):FR L' f f':=by
 cases h with
 | same h=>exact .same h
 | yield h=>exact .yield (hl _ _ h)
theorem VR.mono {L L':Lam} (hl:L.le L') {v x:Value} (h:VR L v x):VR L' v x:=by
 induction h with
 | bool b=>exact .bool b
 | int k n=>exact .int k n
 | float k b=>exact .float k b
 | complex k a b=>exact .complex k a b
 | string s=>exact .string s
 | nilp=>exact .nilp
 | ptr h=>exact .ptr (hl _ _ h)
 | nils=>exact .nils
 | slice h=>exact .slice (hl _ _ h)
 | opq a c=>exact .opq a c
 | nilm=>exact .nilm
 | map h=>exact .map (hl _ _ h)
 | nilc=>exact .nilc
 | func hf h1 h2 hx hy ihx ihy=>exact .func (hf.mono hl) h1 h2 (fun i v x a b=>ihx i v x a b) (fun i v x a b=>ihy i v x a b)
 | nilf=>exact .nilf
 | iface h ih=>exact .iface ih
 | nili=>exact .nili
 | agg h1 hx ih=>exact .agg h1 (fun i v x a b=>ih i v x a b)
 | tuple h1 hx ih=>exact .tuple h1 (fun i v x a b=>ih i v x a b)
theorem LR.mono {L L':Lam} (hl:L.le L') {vs xs:List Value} (h:LR L vs xs):LR L' vs xs:=⟨h.1,fun i v x a b=>(h.2 i v x a b).mono hl⟩
theorem AR.mono {L L':Lam} (hl:L.le L') {vs xs:Array Value} (h:AR L vs xs):AR L' vs xs:=⟨h.1,fun i v x a b=>(h.2 i v x a b).mono hl⟩
theorem arr_eq_of_AR {L:Lam} {n:Nat} (ih:∀ (v x:Value),flatF n v = true→VR L v x→x = v) {xs ys:Array Value} (hs:xs.size = ys.size)
  (h:∀ (i:Nat) (v x:Value),xs[i]? = some v→ys[i]? = some x→VR L v x) (hf:xs.toList.all (flatF n) = true):ys = xs:=by
 apply Array.ext_getElem?
 intro i
 rcases Nat.lt_or_ge i xs.size with hi | hi
 ·have h1:xs[i]? = some xs[i]:=Array.getElem?_eq_getElem hi
  have h2:ys[i]? = some (ys[i]'(by omega)):=Array.getElem?_eq_getElem (by omega)
  have:=ih _ _ (List.all_eq_true.1 hf xs[i] (Array.getElem_mem_toList hi)) (h i _ _ h1 h2)
  rw [h2,this,h1]
 ·rw [Array.getElem?_eq_none hi,Array.getElem?_eq_none (by omega)]
theorem VR.eqF {L:Lam}:∀ (n:Nat) (v x:Value),flatF n v = true→VR L v x→x = v
 | 0,_,_,h,_=>by simp [flatF] at h
 | n + 1,v,x,h,hr=>by
  cases hr with
  | ptr=>simp [flatF] at h
  | slice=>simp [flatF] at h
  | opq=>simp [flatF] at h
  | map=>simp [flatF] at h
  | func hf h1 h2 hx hy =>
   simp only [flatF,Bool.and_eq_true] at h
   cases hf with
   | same _=>rw [arr_eq_of_AR (VR.eqF n) h1 hx h.1.2,arr_eq_of_AR (VR.eqF n) h2 hy h.2]
   | yield _=>simp [fnFlat] at h
  | iface hv =>
   simp only [flatF] at h
   rw [VR.eqF n _ _ h hv]
  | agg h1 hx=>simp only [flatF] at h; rw [arr_eq_of_AR (VR.eqF n) h1 hx h]
  | tuple h1 hx=>simp only [flatF] at h; rw [arr_eq_of_AR (VR.eqF n) h1 hx h]
  | _=>rfl
theorem VR.eq_flat {L:Lam} {v x:Value} (h:flat v = true) (hr:VR L v x):x = v:=VR.eqF 16 v x h hr
theorem AR.refl_of {L:Lam} {n:Nat} (ih:∀ v,flatF n v = true→VR L v v) {xs:Array Value} (hf:xs.toList.all (flatF n) = true) :
  ∀ (i:Nat) (v x:Value),xs[i]? = some v→xs[i]? = some x→VR L v x:=by
 intro i v x h1 h2
 rw [h1] at h2; cases h2
 refine ih v (List.all_eq_true.1 hf v ?_)
 have:=Array.mem_of_getElem? h1
 simpa using this
theorem VR.reflF {L:Lam}:∀ (n:Nat) (v:Value),flatF n v = true→VR L v v
 | 0,_,h=>by simp [flatF] at h
 | n + 1,v,h=>by
  cases v with
  | bool b=>exact .bool b
  | int k n=>exact .int k n
  | float k b=>exact .float k b
  | complex k a b=>exact .complex k a b
  | string s=>exact .string s
  | pointer a=>cases a with
   | none=>exact .nilp
   | some a=>simp [flatF] at h
  | slice a len cap =>
   cases a with
   | some a=>simp [flatF] at h
   | none =>
    cases len with
    | succ=>simp [flatF] at h
    | zero=>cases cap with
     | succ=>simp [flatF] at h
     | zero=>exact .nils
  | map r=>cases r with
   | none=>exact .nilm
   | some a=>simp [flatF] at h
  | chan r=>cases r with
   | none=>exact .nilc
   | some a=>simp [flatF] at h
  | func f xs ys =>
   simp only [flatF,Bool.and_eq_true] at h
   exact .func (.same h.1.1) rfl rfl (AR.refl_of (VR.reflF n) h.1.2) (AR.refl_of (VR.reflF n) h.2)
  | nilFunc=>exact .nilf
  | iface t v=>exact .iface (VR.reflF n v (by simpa [flatF] using h))
  | nilIface=>exact .nili
  | agg cs=>exact .agg rfl (AR.refl_of (VR.reflF n) (by simpa [flatF] using h))
  | tuple cs=>exact .tuple rfl (AR.refl_of (VR.reflF n) (by simpa [flatF] using h))
theorem VR.refl_flat {L:Lam} {v:Value} (h:flat v = true):VR L v v:=VR.reflF 16 v h
theorem LR.eq_flat {L:Lam} {vs xs:List Value} (h:vs.all flat = true) (hr:LR L vs xs):xs = vs:=by
 have:=arr_eq_of_AR (L:=L) (n:=16) (VR.eqF 16) hr.toArray.1 hr.toArray.2 (by simpa [flat] using h)
 simpa using this
theorem VR.cells {L:Lam} {v x:Value} (h:VR L v x):AR L v.cells x.cells:=by
 have one:∀ {v x:Value},VR L v x→AR L #[v] #[x]:=fun h=>by
  refine ⟨rfl,fun i a b h1 h2=>?_⟩
  cases i with
  | zero=>simp at h1 h2; subst h1; subst h2; exact h
  | succ i=>simp at h1
 cases h with
 | agg h1 hx=>exact ⟨h1,hx⟩
 | bool b=>exact one (.bool b)
 | int k n=>exact one (.int k n)
 | float k b=>exact one (.float k b)
 | complex k a b=>exact one (.complex k a b)
 | string s=>exact one (.string s)
 | nilp=>exact one .nilp
 | ptr h=>exact one (.ptr h)
 | nils=>exact one .nils
 | slice h=>exact one (.slice h)
 | opq a c=>exact one (.opq a c)
 | nilm=>exact one .nilm
 | map h=>exact one (.map h)
 | nilc=>exact one .nilc
 | func hf h1 h2 hx hy=>exact one (.func hf h1 h2 hx hy)
 | nilf=>exact one .nilf
 | iface h=>exact one (.iface h)
 | nili=>exact one .nili
 | tuple h1 hx=>exact one (.tuple h1 hx)
def fnEq:Fn→Fn→Bool
 | .func a,.func b=>a == b
 | .yield a,.yield b=>a == b
 | a,b=>decide (a = b)
def optAddrEq:Option Addr→Option Addr→Bool
 | none,none=>true
 | some a,some b=>a.block == b.block && a.off == b.off && a.spot.isNone && b.spot.isNone
 | _,_=>false
def allEq {α:Type} (f:α→α→Bool):List α→List α→Bool
 | [],[]=>true
 | x :: xs,y :: ys=>f x y && allEq f xs ys
 | _,_=>false
def veqF:Nat→Value→Value→Bool
 | 0,_,_=>false
 | n + 1,a,b=>match a,b with
  | .bool a,.bool b=>a == b
  | .int k a,.int j b=>decide (k = j) && decide (a = b)
  | .string a,.string b=>allEq (fun (x y:UInt8)=>x.toNat == y.toNat) a.data.toList b.data.toList
  | .pointer a,.pointer b=>optAddrEq a b
  | .slice a l c,.slice b m d=>optAddrEq a b && l == m && c == d
  | .map none,.map none=>true
  | .map (some a),.map (some b)=>a == b
  | .nilFunc,.nilFunc=>true
  | .nilIface,.nilIface=>true
  | .iface t a,.iface u b=>t == u && veqF n a b
  | .agg a,.agg b=>allEq (veqF n) a.toList b.toList
  | .tuple a,.tuple b=>allEq (veqF n) a.toList b.toList
  | .func f a b,.func g c d=>fnEq f g && allEq (veqF n) a.toList c.toList && allEq (veqF n) b.toList d.toList
  | _,_=>false
def veq (a b:Value):Bool:=veqF 16 a b
theorem optAddrEq_eq {a b:Option Addr} (h:optAddrEq a b = true):a = b:=by
 cases a with
 | none=>cases b with
  | none=>rfl
  | some b=>simp [optAddrEq] at h
 | some a=>cases b with
  | none=>simp [optAddrEq] at h
  | some b =>
   obtain ⟨a1,a2,a3⟩:=a
   obtain ⟨b1,b2,b3⟩:=b
   simp only [optAddrEq,Bool.and_eq_true,beq_iff_eq,Option.isNone_iff_eq_none] at h
   obtain ⟨⟨⟨rfl,rfl⟩,rfl⟩,rfl⟩:=h
   rfl
theorem fnEq_eq {a b:Fn} (h:fnEq a b = true):a = b:=by
 unfold fnEq at h
 split at h
 ·simpa using h
 ·simpa using h
 ·exact of_decide_eq_true h
theorem allEq_eq {α:Type} {f:α→α→Bool} (hf:∀ x y,f x y = true→x = y):∀ {xs ys:List α},allEq f xs ys = true→xs = ys
 | [],[],_=>rfl
 | [],_ :: _,h=>by simp [allEq] at h
 | _ :: _,[],h=>by simp [allEq] at h
 | x :: xs,y :: ys,h=>by
  simp only [allEq,Bool.and_eq_true] at h
  rw [hf _ _ h.1,allEq_eq hf h.2]
theorem arr_of_list {α:Type} {a b:Array α} (h:a.toList = b.toList):a = b:=by
 rw [← Array.toArray_toList (xs:=a),h]
theorem veqF_eq:∀ (n:Nat) (a b:Value),veqF n a b = true→a = b
 | 0,_,_,h=>by simp [veqF] at h
 | n + 1,a,b,h=>by
  unfold veqF at h
  split at h
  ·simp at h; rw [h]
  ·simp at h; rw [h.1,h.2]
  ·rename_i a b
   have:=allEq_eq (fun (x y:UInt8) h=>UInt8.toNat_inj.1 (by simpa using h)) h
   cases a; cases b
   simp at this
   rw [this]
  ·rw [optAddrEq_eq h]
  ·simp only [Bool.and_eq_true,beq_iff_eq] at h
   rw [optAddrEq_eq h.1.1,h.1.2,h.2]
  ·rfl
  ·simp at h; rw [h]
  ·rfl
  ·rfl
  ·simp only [Bool.and_eq_true,beq_iff_eq] at h
   rw [h.1,veqF_eq n _ _ h.2]
  ·rw [arr_of_list (allEq_eq (veqF_eq n) h)]
  ·rw [arr_of_list (allEq_eq (veqF_eq n) h)]
  ·simp only [Bool.and_eq_true] at h
   rw [fnEq_eq h.1.1,arr_of_list (allEq_eq (veqF_eq n) h.1.2),arr_of_list (allEq_eq (veqF_eq n) h.2)]
  ·cases h
theorem veq_eq {a b:Value} (h:veq a b = true):a = b:=veqF_eq 16 a b h
end Go.Run
