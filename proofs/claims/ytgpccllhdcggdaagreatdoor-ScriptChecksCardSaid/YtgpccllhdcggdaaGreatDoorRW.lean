import Derived.WalkKit
import Derived.RangeFuncIn
import Derived.Lib.SlBytesConst
import Derived.Lib.Builder
import Derived.Lib.UnsafeStr
import Derived.Lib.ConvBytes
open List renaming getElem?_eq_getElem -> zys
open Nat renaming le_refl -> zyF
open List renaming append_assoc -> zyI
open Array renaming getElem?_eq_getElem -> zyK
open Bool renaming and_eq_true -> zyL
open Nat renaming eq_of_beq_eq_true -> zyM
open Option.some renaming injEq -> zyO
open List renaming length_append -> zyQ
open List renaming eq_nil_of_length_eq_zero -> zyR
open List renaming all_eq_true -> zyS
set_option linter.unusedSimpArgs false
set_option linter.unusedVariables false
noncomputable section
namespace Go.Run
open Go.RowKit
inductive T (α:Type) where
 | nil
 | node (l:T α) (v:Option α) (r:T α)
def T.get {α:Type} (t:T α):Nat->Option α :=
 T.rec (motive:=fun _=>Nat->Option α) (fun _=>none) (fun _ v _ gl gr n=>cond (Nat.beq n 0) v (cond (Nat.beq (n % 2) 1) (gl (n / 2)) (gr (n / 2 - 1)))) t
def T.setF {α:Type} (f:Nat):T α->Nat->α->T α :=
 Nat.rec (motive:=fun _=>T α->Nat->α->T α) (fun t _ _=>t) (fun _ ih t n x=>T.casesOn (motive:=fun _=>T α) t
  (cond (Nat.beq n 0) (.node .nil (some x) .nil) (cond (Nat.beq (n % 2) 1) (.node (ih .nil (n / 2) x) none .nil) (.node .nil none (ih .nil (n / 2 - 1) x))))
  (fun l v r=>cond (Nat.beq n 0) (.node l (some x) r) (cond (Nat.beq (n % 2) 1) (.node (ih l (n / 2) x) v r) (.node l v (ih r (n / 2 - 1) x))))) f
theorem T.get_node0 {α:Type} (l:T α) (v:Option α) (r:T α) (n:Nat):(T.node l v r).get n = cond (Nat.beq n 0) v (cond (Nat.beq (n % 2) 1) (l.get (n / 2)) (r.get (n / 2 - 1))):=rfl
theorem T.setF_nil {α:Type} (f n:Nat) (x:α):T.setF (f + 1) .nil n x = cond (Nat.beq n 0) (.node .nil (some x) .nil) (cond (Nat.beq (n % 2) 1) (.node (T.setF f .nil (n / 2) x) none .nil) (.node .nil none (T.setF f .nil (n / 2 - 1) x))):=rfl
theorem T.setF_node {α:Type} (f:Nat) (l:T α) (v:Option α) (r:T α) (n:Nat) (x:α):T.setF (f + 1) (.node l v r) n x = cond (Nat.beq n 0) (.node l (some x) r) (cond (Nat.beq (n % 2) 1) (.node (T.setF f l (n / 2) x) v r) (.node l v (T.setF f r (n / 2 - 1) x))):=rfl
def T.set {α:Type} (t:T α) (n:Nat) (x:α):T α:=T.setF (n + 1) t n x
theorem beqF {n m:Nat} (h:¬ n = m):Nat.beq n m = false:=by
 cases hb:Nat.beq n m
 ·rfl
 ·exact absurd (zyM hb) h
theorem T.get_nil {α:Type} (n:Nat):(T.nil:T α).get n = none:=rfl
theorem T.get_node {α:Type} (l:T α) (v:Option α) (r:T α) (n:Nat) :
  (T.node l v r).get n = if n = 0 then v else if n % 2 = 1 then l.get (n / 2) else r.get (n / 2 - 1):=by
 rw [T.get_node0]
 by_cases h:n = 0
 ·subst h; rfl
 ·have:Nat.beq n 0 = false:=beqF h
  rw [this,if_neg h]
  by_cases h1:n % 2 = 1
  ·rw [if_pos h1,h1]; rfl
  ·have:Nat.beq (n % 2) 1 = false:=beqF h1
   rw [this,if_neg h1]; rfl
theorem T.setF_succ {α:Type} (f:Nat) (t:T α) (n:Nat) (x:α):∃ l v r,(∀ m,t.get m = (T.node l v r).get m) /\
  T.setF (f + 1) t n x = if n = 0 then .node l (some x) r else if n % 2 = 1 then .node (T.setF f l (n / 2) x) v r else .node l v (T.setF f r (n / 2 - 1) x):=by
 cases t with
 | nil =>
  refine ⟨.nil,none,.nil,fun m=>by rw [T.get_node]; simp [T.get_nil],?_⟩
  rw [T.setF_nil]
  by_cases h:n = 0
  ·subst h; rfl
  ·have:Nat.beq n 0 = false:=beqF h
   rw [this,if_neg h]
   by_cases h1:n % 2 = 1
   ·rw [if_pos h1,h1]; rfl
   ·have:Nat.beq (n % 2) 1 = false:=beqF h1
    rw [this,if_neg h1]; rfl
 | node l v r =>
  refine ⟨l,v,r,fun m=>rfl,?_⟩
  rw [T.setF_node]
  by_cases h:n = 0
  ·subst h; rfl
  ·have:Nat.beq n 0 = false:=beqF h
   rw [this,if_neg h]
   by_cases h1:n % 2 = 1
   ·rw [if_pos h1,h1]; rfl
   ·have:Nat.beq (n % 2) 1 = false:=beqF h1
    rw [this,if_neg h1]; rfl
theorem T.get_setF {α:Type} (x:α):∀ (f:Nat) (t:T α) (n:Nat),n + 1 < 2 ^ f->∀ m,(T.setF f t n x).get m = if m = n then some x else t.get m
 | 0,_,n,h,_=>by simp at h
 | f + 1,t,n,h,m=>by
  obtain ⟨l,v,r,h1,h2⟩:=T.setF_succ f t n x
  rw [h2,h1 m]
  rw [Nat.pow_succ] at h
  by_cases h0:n = 0
  ·subst h0
   rw [if_pos rfl,T.get_node,T.get_node]
   by_cases hm:m = 0
   ·rw [if_pos hm,if_pos hm]
   ·rw [if_neg hm,if_neg hm,if_neg hm]
  ·rw [if_neg h0]
   by_cases h3:n % 2 = 1
   ·rw [if_pos h3,T.get_node,T.get_node]
    by_cases hm:m = 0
    ·rw [if_pos hm,if_pos hm,if_neg (by omega)]
    ·rw [if_neg hm,if_neg hm]
     by_cases hm1:m % 2 = 1
     ·rw [if_pos hm1,if_pos hm1,T.get_setF x f l (n / 2) (by omega) (m / 2)]
      by_cases he:m / 2 = n / 2
      ·rw [if_pos he,if_pos (by omega)]
      ·rw [if_neg he,if_neg (by omega)]
     ·rw [if_neg hm1,if_neg hm1,if_neg (by omega)]
   ·rw [if_neg h3,T.get_node,T.get_node]
    by_cases hm:m = 0
    ·rw [if_pos hm,if_pos hm,if_neg (by omega)]
    ·rw [if_neg hm,if_neg hm]
     by_cases hm1:m % 2 = 1
     ·rw [if_pos hm1,if_pos hm1,if_neg (by omega)]
     ·rw [if_neg hm1,if_neg hm1,T.get_setF x f r (n / 2 - 1) (by omega) (m / 2 - 1)]
      by_cases he:m / 2 - 1 = n / 2 - 1
      ·rw [if_pos he,if_pos (by omega)]
      ·rw [if_neg he,if_neg (by omega)]
def zq (_:Nat):Bool:=true
theorem T.get_set {α:Type} {t:T α} {n:Nat} {x:α} (_h:zq n = true) (m:Nat):(t.set n x).get m = if m = n then some x else t.get m :=
 T.get_setF x (n + 1) t n Nat.lt_two_pow_self m
def T.row {α:Type} (t:T α):Nat->Nat->Option (List α)
 | _,0=>some []
 | off,n + 1=>match t.get off,t.row (off + 1) n with
  | some x,some l=>some (x :: l)
  | _,_=>none
theorem T.row_spec {α:Type} {t:T α}:∀ (n off:Nat) (l:List α),t.row off n = some l->l.length = n/\∀ i,i < n->t.get (off + i) = l[i]?
 | 0,off,l,h=>by
  simp only [T.row,zyO] at h; subst h
  exact ⟨rfl,fun i hi=>by omega⟩
 | n + 1,off,l,h=>by
  simp only [T.row] at h
  split at h
  ·rename_i x l' h1 h2
   simp only [zyO] at h; subst h
   obtain ⟨q1,q2⟩:=T.row_spec n (off + 1) l' h2
   refine ⟨by simp [q1],fun i hi=>?_⟩
   cases i with
   | zero=>simpa using h1
   | succ i =>
    rw [show off + (i + 1) = off + 1 + i from by omega,q2 i (by omega)]
    simp
  ·cases h
def T.setRow {α:Type} (t:T α):Nat->List α->T α
 | _,[]=>t
 | off,x :: l=>(t.set off x).setRow (off + 1) l
theorem T.get_setRow {α:Type}:∀ (l:List α) (t:T α) (off:Nat),zq (off + l.length) = true->∀ m,(t.setRow off l).get m = if off <= m/\m < off + l.length then l[m - off]? else t.get m
 | [],t,off,_,m=>by
  simp only [T.setRow,List.length_nil]
  rw [if_neg (by omega)]
 | x :: l,t,off,_,m=>by
  simp only [T.setRow]
  rw [T.get_setRow l (t.set off x) (off + 1) rfl,T.get_set rfl]
  simp only [List.length_cons]
  by_cases h1:m = off
  ·subst h1
   rw [if_neg (by omega),if_pos rfl,if_pos (by omega)]
   simp
  ·by_cases h2:off + 1 <= m/\m < off + 1 + l.length
   ·rw [if_pos h2,if_pos (by omega)]
    rw [show m - off = (m - (off + 1)) + 1 from by omega]
    simp
   ·rw [if_neg h2,if_neg h1,if_neg (by omega)]
def yu {α:Type} (P:Program):Sem α->Option α
 | .pure a=>some a
 | .program k=>yu P (k P)
 | .mark _ k=>yu P k
 | _=>none
theorem qd {α:Type} {P:Program} (s:Sem α) {a:α} (h:yu P s = some a) (w:World):s.run P w = .ok a w:=by
 induction s with
 | pure b=>simp only [yu,zyO] at h; subst h; rfl
 | program k ih=>simp only [yu] at h; exact ih P h
 | mark m k ih=>simp only [yu] at h; exact ih h
 | _=>simp [yu] at h
def zeE:Fn->Bool
 | .yield _=>false
 | _=>true
def yD:Nat->Value->Bool
 | 0,_=>false
 | n + 1,v=>match v with
  | .bool _ | .int _ _ | .float _ _ | .complex _ _ _ | .string _ | .pointer none | .slice none 0 0 | .map none | .chan none | .nilFunc | .nilIface=>true
  | .iface _ v=>yD n v
  | .agg cs=>cs.toList.all (yD n)
  | .tuple cs=>cs.toList.all (yD n)
  | .func f first captured=>zeE f && first.toList.all (yD n) && captured.toList.all (yD n)
  | _=>false
def flat (v:Value):Bool:=yD 16 v
structure Pl where
 b:Nat
 base:Nat
 ext:Nat
abbrev Lam:=Nat->Option Pl
def ZX (cap:Nat):Bool:=Nat.beq (cap % 2) 1
def zbx (cap ext:Nat):Nat:=cond (ZX cap) (cap / 2 + ext) (cap / 2)
theorem zcg (n e:Nat):zbx (2 * n) e = n:=by
 have h1:(2 * n) % 2 = 0:=by omega
 have h2:(2 * n) / 2 = n:=by omega
 unfold zbx ZX
 rw [h1,h2]; rfl
theorem zbM (n e:Nat):zbx (2 * n + 1) e = n + e:=by
 have h1:(2 * n + 1) % 2 = 1:=by omega
 have h2:(2 * n + 1) / 2 = n:=by omega
 unfold zbx ZX
 rw [h1,h2]; rfl
theorem zay {c e:Nat} (h:ZX c = true):zbx c e = c / 2 + e:=by unfold zbx; rw [h]; rfl
theorem YQ {c e:Nat} (h:ZX c = false):zbx c e = c / 2:=by unfold zbx; rw [h]; rfl
theorem zmK {c:Nat} (h:ZX c = true):c = 2 * (c / 2) + 1:=by
 have:c % 2 = 1:=zyM h
 omega
inductive FR (L:Lam):Fn->Fn->Prop where
 | same {f:Fn} (h:zeE f = true):FR L f f
 | yield {l:Nat} {p:Pl} (h:L l = some p):FR L (.yield l) (.yield p.b)
inductive VR (L:Lam):Value->Value->Prop where
 | bool (b:Bool):VR L (.bool b) (.bool b)
 | int (k:IntKind) (n:Int):VR L (.int k n) (.int k n)
 | float (k:FloatKind) (b:Nat):VR L (.float k b) (.float k b)
 | complex (k:FloatKind) (a b:Nat):VR L (.complex k a b) (.complex k a b)
 | string (s:ByteArray):VR L (.string s) (.string s)
 | nilp:VR L (.pointer none) (.pointer none)
 | ptr {b o:Nat} {p:Pl} (h:L b = some p):VR L (.pointer (some ⟨b,o,none⟩)) (.pointer (some ⟨p.b,p.base + o,none⟩))
 | nils:VR L (.slice none 0 0) (.slice none 0 0)
 | slice {b o len cap:Nat} {p:Pl} (h:L b = some p):VR L (.slice (some ⟨b,o,none⟩) len cap) (.slice (some ⟨p.b,p.base + o,none⟩) len (zbx cap p.ext))
 | opq (a:Addr) (c:Nat):VR L (.slice (some ⟨0,0,some 1⟩) 0 0) (.slice (some a) 0 c)
 | nilm:VR L (.map none) (.map none)
 | map {b:Nat} {p:Pl} (h:L b = some p):VR L (.map (some b)) (.map (some p.b))
 | nilc:VR L (.chan none) (.chan none)
 | func {f f':Fn} {xs ys xs' ys':Array Value} (hf:FR L f f') (h1:xs.size = xs'.size) (h2:ys.size = ys'.size)
   (hx:∀ (i:Nat) (v x:Value),xs[i]? = some v->xs'[i]? = some x->VR L v x) (hy:∀ (i:Nat) (v x:Value),ys[i]? = some v->ys'[i]? = some x->VR L v x):VR L (.func f xs ys) (.func f' xs' ys')
 | nilf:VR L .nilFunc .nilFunc
 | iface {t:TypeId} {v x:Value} (h:VR L v x):VR L (.iface t v) (.iface t x)
 | nili:VR L .nilIface .nilIface
 | agg {xs xs':Array Value} (h1:xs.size = xs'.size) (hx:∀ (i:Nat) (v x:Value),xs[i]? = some v->xs'[i]? = some x->VR L v x):VR L (.agg xs) (.agg xs')
 | tuple {xs xs':Array Value} (h1:xs.size = xs'.size) (hx:∀ (i:Nat) (v x:Value),xs[i]? = some v->xs'[i]? = some x->VR L v x):VR L (.tuple xs) (.tuple xs')
def AR (L:Lam) (xs ys:Array Value):Prop:=xs.size = ys.size/\∀ (i:Nat) (v x:Value),xs[i]? = some v->ys[i]? = some x->VR L v x
def LR (L:Lam) (xs ys:List Value):Prop:=xs.length = ys.length/\∀ (i:Nat) (v x:Value),xs[i]? = some v->ys[i]? = some x->VR L v x
theorem AR.toList {L:Lam} {xs ys:Array Value} (h:AR L xs ys):LR L xs.toList ys.toList:=⟨by simpa using h.1,fun i v x h1 h2=>h.2 i v x (by simpa using h1) (by simpa using h2)⟩
theorem LR.toArray {L:Lam} {xs ys:List Value} (h:LR L xs ys):AR L xs.toArray ys.toArray:=⟨by simpa using h.1,fun i v x h1 h2=>h.2 i v x (by simpa using h1) (by simpa using h2)⟩
theorem AR.of_toList {L:Lam} {xs ys:Array Value} (h:LR L xs.toList ys.toList):AR L xs ys:=⟨by simpa using h.1,fun i v x h1 h2=>h.2 i v x (by simpa using h1) (by simpa using h2)⟩
theorem LR.nil (L:Lam):LR L [] []:=⟨rfl,fun i v x h=>by simp at h⟩
theorem LR.cons {L:Lam} {v x:Value} {vs xs:List Value} (h:VR L v x) (k:LR L vs xs):LR L (v :: vs) (x :: xs) :=
 ⟨by simp [k.1],fun i u y h1 h2=>by
  cases i with
  | zero=>simp at h1 h2; subst h1; subst h2; exact h
  | succ i=>simp at h1 h2; exact k.2 i u y h1 h2⟩
theorem LR.of_cons {L:Lam} {v x:Value} {vs xs:List Value} (h:LR L (v :: vs) (x :: xs)):VR L v x/\LR L vs xs :=
 ⟨h.2 0 v x (by simp) (by simp),by simpa using h.1,fun i u y h1 h2=>h.2 (i + 1) u y (by simpa using h1) (by simpa using h2)⟩
theorem LR.cons_inv {L:Lam} {v:Value} {vs ys:List Value} (h:LR L (v :: vs) ys):∃ x xs,ys = x :: xs/\VR L v x/\LR L vs xs:=by
 cases ys with
 | nil=>have:=h.1; simp at this
 | cons x xs=>exact ⟨x,xs,rfl,h.of_cons⟩
theorem LR.nil_inv {L:Lam} {ys:List Value} (h:LR L [] ys):ys = []:=zyR (by simpa using h.1.symm)
theorem LR.append {L:Lam} {vs xs vs' xs':List Value} (h:LR L vs xs) (k:LR L vs' xs'):LR L (vs++vs') (xs++xs') :=
 ⟨by simp [h.1,k.1],fun i u y h1 h2=>by
  rw [List.getElem?_append] at h1 h2
  rw [h.1] at h1
  split at h1
  ·rename_i hi; rw [if_pos hi] at h2; exact h.2 i u y h1 h2
  ·rename_i hi; rw [if_neg hi] at h2; exact k.2 _ u y h1 h2⟩
theorem LR.get {L:Lam} {vs xs:List Value} (h:LR L vs xs) {i:Nat} {v:Value} (hv:vs[i]? = some v):∃ x,xs[i]? = some x/\VR L v x:=by
 have hlt:i < xs.length:=by rw [<- h.1]; exact (List.getElem?_eq_some_iff.1 hv).1
 exact ⟨xs[i],zys hlt,h.2 i v _ hv (zys hlt)⟩
theorem AR.get {L:Lam} {vs xs:Array Value} (h:AR L vs xs) {i:Nat} {v:Value} (hv:vs[i]? = some v):∃ x,xs[i]? = some x/\VR L v x:=by
 obtain ⟨x,h1,h2⟩:=h.toList.get (i:=i) (v:=v) (by simpa using hv)
 exact ⟨x,by simpa using h1,h2⟩
theorem LR.drop {L:Lam} {vs xs:List Value} (h:LR L vs xs) (n:Nat):LR L (vs.drop n) (xs.drop n) :=
 ⟨by simp [h.1],fun i u y h1 h2=>by rw [List.getElem?_drop] at h1 h2; exact h.2 _ u y h1 h2⟩
theorem LR.take {L:Lam} {vs xs:List Value} (h:LR L vs xs) (n:Nat):LR L (vs.take n) (xs.take n) :=
 ⟨by simp [h.1],fun i u y h1 h2=>by
  rw [List.getElem?_take] at h1 h2
  split at h1
  ·rename_i hi; rw [if_pos hi] at h2; exact h.2 _ u y h1 h2
  ·cases h1⟩
def Lam.le (L L':Lam):Prop:=∀ b p,L b = some p->L' b = some p
theorem Lam.le_refl (L:Lam):L.le L:=fun _ _ h=>h
theorem Lam.le_trans {L L' L'':Lam} (h:L.le L') (k:L'.le L''):L.le L'':=fun b p q=>k b p (h b p q)
theorem FR.mono {L L':Lam} (hl:L.le L') {f f':Fn} (h:FR L f f'):FR L' f f':=by
 cases h with
 | same h=>exact .same h
 | yield h=>exact .yield (hl _ _ h)
theorem VR.mono {L L':Lam} (hl:L.le L') {v x:Value} (h:VR L v x):VR L' v x:=by
 induction h with
 | bool b=>exact .bool b
 | int k n=>exact .int k n
 | float k b=>exact .float k b
 | complex k a b=>exact .complex k a b
 | string s=>exact .string s
 | nilp=>exact .nilp
 | ptr h=>exact .ptr (hl _ _ h)
 | nils=>exact .nils
 | slice h=>exact .slice (hl _ _ h)
 | opq a c=>exact .opq a c
 | nilm=>exact .nilm
 | map h=>exact .map (hl _ _ h)
 | nilc=>exact .nilc
 | func hf h1 h2 hx hy ihx ihy=>exact .func (hf.mono hl) h1 h2 (fun i v x a b=>ihx i v x a b) (fun i v x a b=>ihy i v x a b)
 | nilf=>exact .nilf
 | iface h ih=>exact .iface ih
 | nili=>exact .nili
 | agg h1 hx ih=>exact .agg h1 (fun i v x a b=>ih i v x a b)
 | tuple h1 hx ih=>exact .tuple h1 (fun i v x a b=>ih i v x a b)
theorem LR.mono {L L':Lam} (hl:L.le L') {vs xs:List Value} (h:LR L vs xs):LR L' vs xs:=⟨h.1,fun i v x a b=>(h.2 i v x a b).mono hl⟩
theorem AR.mono {L L':Lam} (hl:L.le L') {vs xs:Array Value} (h:AR L vs xs):AR L' vs xs:=⟨h.1,fun i v x a b=>(h.2 i v x a b).mono hl⟩
theorem Yo {L:Lam} {n:Nat} (ih:∀ (v x:Value),yD n v = true->VR L v x->x = v) {xs ys:Array Value} (hs:xs.size = ys.size)
  (h:∀ (i:Nat) (v x:Value),xs[i]? = some v->ys[i]? = some x->VR L v x) (hf:xs.toList.all (yD n) = true):ys = xs:=by
 apply Array.ext_getElem?
 intro i
 rcases Nat.lt_or_ge i xs.size with hi | hi
 ·have h1:xs[i]? = some xs[i]:=zyK hi
  have h2:ys[i]? = some (ys[i]'(by omega)):=zyK (by omega)
  have:=ih _ _ (List.all_eq_true.1 hf xs[i] (Array.getElem_mem_toList hi)) (h i _ _ h1 h2)
  rw [h2,this,h1]
 ·rw [Array.getElem?_eq_none hi,Array.getElem?_eq_none (by omega)]
theorem VR.eqF {L:Lam}:∀ (n:Nat) (v x:Value),yD n v = true->VR L v x->x = v
 | 0,_,_,h,_=>by simp [yD] at h
 | n + 1,v,x,h,hr=>by
  cases hr with
  | ptr=>simp [yD] at h
  | slice=>simp [yD] at h
  | opq=>simp [yD] at h
  | map=>simp [yD] at h
  | func hf h1 h2 hx hy =>
   simp only [yD,zyL] at h
   cases hf with
   | same _=>rw [Yo (VR.eqF n) h1 hx h.1.2,Yo (VR.eqF n) h2 hy h.2]
   | yield _=>simp [zeE] at h
  | iface hv =>
   simp only [yD] at h
   rw [VR.eqF n _ _ h hv]
  | agg h1 hx=>simp only [yD] at h; rw [Yo (VR.eqF n) h1 hx h]
  | tuple h1 hx=>simp only [yD] at h; rw [Yo (VR.eqF n) h1 hx h]
  | _=>rfl
theorem VR.eq_flat {L:Lam} {v x:Value} (h:flat v = true) (hr:VR L v x):x = v:=VR.eqF 16 v x h hr
theorem AR.refl_of {L:Lam} {n:Nat} (ih:∀ v,yD n v = true->VR L v v) {xs:Array Value} (hf:xs.toList.all (yD n) = true) :
  ∀ (i:Nat) (v x:Value),xs[i]? = some v->xs[i]? = some x->VR L v x:=by
 intro i v x h1 h2
 rw [h1] at h2; cases h2
 refine ih v (List.all_eq_true.1 hf v ?_)
 have:=Array.mem_of_getElem? h1
 simpa using this
theorem VR.reflF {L:Lam}:∀ (n:Nat) (v:Value),yD n v = true->VR L v v
 | 0,_,h=>by simp [yD] at h
 | n + 1,v,h=>by
  cases v with
  | bool b=>exact .bool b
  | int k n=>exact .int k n
  | float k b=>exact .float k b
  | complex k a b=>exact .complex k a b
  | string s=>exact .string s
  | pointer a=>cases a with
   | none=>exact .nilp
   | some a=>simp [yD] at h
  | slice a len cap =>
   cases a with
   | some a=>simp [yD] at h
   | none =>
    cases len with
    | succ=>simp [yD] at h
    | zero=>cases cap with
     | succ=>simp [yD] at h
     | zero=>exact .nils
  | map r=>cases r with
   | none=>exact .nilm
   | some a=>simp [yD] at h
  | chan r=>cases r with
   | none=>exact .nilc
   | some a=>simp [yD] at h
  | func f xs ys =>
   simp only [yD,zyL] at h
   exact .func (.same h.1.1) rfl rfl (AR.refl_of (VR.reflF n) h.1.2) (AR.refl_of (VR.reflF n) h.2)
  | nilFunc=>exact .nilf
  | iface t v=>exact .iface (VR.reflF n v (by simpa [yD] using h))
  | nilIface=>exact .nili
  | agg cs=>exact .agg rfl (AR.refl_of (VR.reflF n) (by simpa [yD] using h))
  | tuple cs=>exact .tuple rfl (AR.refl_of (VR.reflF n) (by simpa [yD] using h))
theorem VR.refl_flat {L:Lam} {v:Value} (h:flat v = true):VR L v v:=VR.reflF 16 v h
theorem LR.eq_flat {L:Lam} {vs xs:List Value} (h:vs.all flat = true) (hr:LR L vs xs):xs = vs:=by
 have:=Yo (L:=L) (n:=16) (VR.eqF 16) hr.toArray.1 hr.toArray.2 (by simpa [flat] using h)
 simpa using this
theorem VR.cells {L:Lam} {v x:Value} (h:VR L v x):AR L v.cells x.cells:=by
 have one:∀ {v x:Value},VR L v x->AR L #[v] #[x]:=fun h=>by
  refine ⟨rfl,fun i a b h1 h2=>?_⟩
  cases i with
  | zero=>simp at h1 h2; subst h1; subst h2; exact h
  | succ i=>simp at h1
 cases h with
 | agg h1 hx=>exact ⟨h1,hx⟩
 | bool b=>exact one (.bool b)
 | int k n=>exact one (.int k n)
 | float k b=>exact one (.float k b)
 | complex k a b=>exact one (.complex k a b)
 | string s=>exact one (.string s)
 | nilp=>exact one .nilp
 | ptr h=>exact one (.ptr h)
 | nils=>exact one .nils
 | slice h=>exact one (.slice h)
 | opq a c=>exact one (.opq a c)
 | nilm=>exact one .nilm
 | map h=>exact one (.map h)
 | nilc=>exact one .nilc
 | func hf h1 h2 hx hy=>exact one (.func hf h1 h2 hx hy)
 | nilf=>exact one .nilf
 | iface h=>exact one (.iface h)
 | nili=>exact one .nili
 | tuple h1 hx=>exact one (.tuple h1 hx)
def zwN:Fn->Fn->Bool
 | .func a,.func b=>a == b
 | .yield a,.yield b=>a == b
 | a,b=>decide (a = b)
def Qn:Option Addr->Option Addr->Bool
 | none,none=>true
 | some a,some b=>a.block == b.block && a.off == b.off && a.spot.isNone && b.spot.isNone
 | _,_=>false
def zbN {α:Type} (f:α->α->Bool):List α->List α->Bool
 | [],[]=>true
 | x :: xs,y :: ys=>f x y && zbN f xs ys
 | _,_=>false
def zkJ:Nat->Value->Value->Bool
 | 0,_,_=>false
 | n + 1,a,b=>match a,b with
  | .bool a,.bool b=>a == b
  | .int k a,.int j b=>decide (k = j) && decide (a = b)
  | .string a,.string b=>zbN (fun (x y:UInt8)=>x.toNat == y.toNat) a.data.toList b.data.toList
  | .pointer a,.pointer b=>Qn a b
  | .slice a l c,.slice b m d=>Qn a b && l == m && c == d
  | .map none,.map none=>true
  | .map (some a),.map (some b)=>a == b
  | .nilFunc,.nilFunc=>true
  | .nilIface,.nilIface=>true
  | .iface t a,.iface u b=>t == u && zkJ n a b
  | .agg a,.agg b=>zbN (zkJ n) a.toList b.toList
  | .tuple a,.tuple b=>zbN (zkJ n) a.toList b.toList
  | .func f a b,.func g c d=>zwN f g && zbN (zkJ n) a.toList c.toList && zbN (zkJ n) b.toList d.toList
  | _,_=>false
def veq (a b:Value):Bool:=zkJ 16 a b
theorem zdI {a b:Option Addr} (h:Qn a b = true):a = b:=by
 cases a with
 | none=>cases b with
  | none=>rfl
  | some b=>simp [Qn] at h
 | some a=>cases b with
  | none=>simp [Qn] at h
  | some b =>
   obtain ⟨a1,a2,a3⟩:=a
   obtain ⟨b1,b2,b3⟩:=b
   simp only [Qn,zyL,beq_iff_eq,Option.isNone_iff_eq_none] at h
   obtain ⟨⟨⟨rfl,rfl⟩,rfl⟩,rfl⟩:=h
   rfl
theorem zvu {a b:Fn} (h:zwN a b = true):a = b:=by
 unfold zwN at h
 split at h
 ·simpa using h
 ·simpa using h
 ·exact of_decide_eq_true h
theorem QL {α:Type} {f:α->α->Bool} (hf:∀ x y,f x y = true->x = y):∀ {xs ys:List α},zbN f xs ys = true->xs = ys
 | [],[],_=>rfl
 | [],_ :: _,h=>by simp [zbN] at h
 | _ :: _,[],h=>by simp [zbN] at h
 | x :: xs,y :: ys,h=>by
  simp only [zbN,zyL] at h
  rw [hf _ _ h.1,QL hf h.2]
theorem Q1 {α:Type} {a b:Array α} (h:a.toList = b.toList):a = b:=by
 rw [<- Array.toArray_toList (xs:=a),h]
theorem zch:∀ (n:Nat) (a b:Value),zkJ n a b = true->a = b
 | 0,_,_,h=>by simp [zkJ] at h
 | n + 1,a,b,h=>by
  unfold zkJ at h
  split at h
  ·simp at h; rw [h]
  ·simp at h; rw [h.1,h.2]
  ·rename_i a b
   have:=QL (fun (x y:UInt8) h=>UInt8.toNat_inj.1 (by simpa using h)) h
   cases a; cases b
   simp at this
   rw [this]
  ·rw [zdI h]
  ·simp only [zyL,beq_iff_eq] at h
   rw [zdI h.1.1,h.1.2,h.2]
  ·rfl
  ·simp at h; rw [h]
  ·rfl
  ·rfl
  ·simp only [zyL,beq_iff_eq] at h
   rw [h.1,zch n _ _ h.2]
  ·rw [Q1 (QL (zch n) h)]
  ·rw [Q1 (QL (zch n) h)]
  ·simp only [zyL] at h
   rw [zvu h.1.1,Q1 (QL (zch n) h.1.2),Q1 (QL (zch n) h.2)]
  ·cases h
theorem zhc {a b:Value} (h:veq a b = true):a = b:=zch 16 a b h
end Go.Run
noncomputable section
namespace Go.Run
open Go.RowKit
inductive AObj where
  | cells (n:Nat) (t:T Value) (ty:TypeId) (op:Option Nat) (fz:Nat × Nat)
 | map (es:List MapEntry) (clock:Nat)
 | siter (s:ByteArray) (pos:Nat)
 | miter (m:Option Nat) (since:Nat) (seen:Array Nat) (stepped:Nat)
 | loop (state:LoopState) (pend:Option Code) (fn:FuncId) (nt:Nat) (tm:T Value) (params:Array Tmp) (assign body:Code) (dblk:Nat)
 | dfr (some_:Bool)
 | dead
def AObj.alive:AObj->Bool
 | .dead=>false
 | _=>true
structure AH where
 nx:Nat
 m:T AObj
def AH.get (H:AH) (b:Nat):Option AObj:=H.m.get b
def AH.push (H:AH) (o:AObj):AH:=⟨H.nx + 1,H.m.set H.nx o⟩
def AH.set (H:AH) (b:Nat) (o:AObj):AH:=⟨H.nx,H.m.set b o⟩
theorem AH.get_push {H:AH} {o:AObj} (h:zq H.nx = true) (b:Nat):(H.push o).get b = if b = H.nx then some o else H.get b:=T.get_set h b
theorem AH.get_set {H:AH} {b:Nat} {o:AObj} (h:zq b = true) (c:Nat):(H.set b o).get c = if c = b then some o else H.get c:=T.get_set h c
def ZB (t:T Value) (s:Nat):Value:=(t.get s).getD undef
def TR (L:Lam) (tm:T Value) (tmps:Array Value):Prop:=∀ s,VR L (ZB tm s) (tmps.getD s undef)
theorem VR.undef (L:Lam):VR L undef undef:=VR.refl_flat (by rfl)
theorem TR.mono {L L':Lam} (hl:L.le L') {tm:T Value} {tmps:Array Value} (h:TR L tm tmps):TR L' tm tmps:=fun s=>(h s).mono hl
structure ER (L:Lam) (e e':MapEntry):Prop where
 key:VR L e.key e'.key
 val:VR L e.val e'.val
 born:e'.born = e.born
theorem ER.mono {L L':Lam} (hl:L.le L') {e e':MapEntry} (h:ER L e e'):ER L' e e':=⟨h.key.mono hl,h.val.mono hl,h.born⟩
def MR (L:Lam) (es es':List MapEntry):Prop:=es.length = es'.length/\∀ (i:Nat) (e e':MapEntry),es[i]? = some e->es'[i]? = some e'->ER L e e'
theorem MR.mono {L L':Lam} (hl:L.le L') {es es':List MapEntry} (h:MR L es es'):MR L' es es':=⟨h.1,fun i e e' a b=>(h.2 i e e' a b).mono hl⟩
def Y7 (L:Lam) (w:World) (p:Pl):AObj->Prop
 | .cells n t ty op fz=>∃ cur fr,w.heap[p.b]? = some (.cells cur ty fr)/\((fz = (0,0)/\fr = (0,0)) ∨ (fz = (1,0)/\(fr.2 <= fr.1 ∨ cur.size <= fr.1)) ∨ (p.base = 0/\fr = fz) ∨ cur.size < fz.2) /\
   (match op with | none=>p.base = 0/\cur.size = n | some sz=>cur.size = p.base + n + p.ext * sz) /\
   ∀ i,i < n->∃ v x,t.get i = some v/\cur[p.base + i]? = some x/\VR L v x/\x.oneCell' = true
 | .map es clock=>∃ es',w.heap[p.b]? = some (.map es' clock)/\MR L es es'.toList
 | .siter s pos=>p.base = 0/\w.heap[p.b]? = some (.stringIter s pos)
 | .miter m since seen stepped=>p.base = 0/\∃ m',w.heap[p.b]? = some (.mapIter m' since seen stepped)/\VR L (.map m) (.map m')
 | .loop st pend fn nt tm params assign body dblk=>∃ tmps d,w.heap[p.b]? = some (.loop { state:=st,pending:=pend,fn:=fn,tmps:=tmps,params:=params,assign:=assign,body:=body,defers:=d }) /\
   tmps.size = nt/\TR L tm tmps/\∃ q,L dblk = some q/\d = q.b
 | .dfr s=>w.heap[p.b]? = some (.deferred (if s then some [] else none))
 | .dead=>True
theorem Y7.mono {L L':Lam} {w w':World} {p:Pl} (hl:L.le L') (hw:w'.heap[p.b]? = w.heap[p.b]?) {o:AObj} (h:Y7 L w p o):Y7 L' w' p o:=by
 cases o with
 | cells n t ty op fz =>
  obtain ⟨cur,fr,h1,h2,h3,h4⟩:=h
  refine ⟨cur,fr,hw.trans h1,h2,h3,fun i hi=>?_⟩
  obtain ⟨v,x,q1,q2,q3,q4⟩:=h4 i hi
  exact ⟨v,x,q1,q2,q3.mono hl,q4⟩
 | map es clock =>
  obtain ⟨es',h1,h2⟩:=h
  exact ⟨es',hw.trans h1,h2.mono hl⟩
 | siter s pos=>exact ⟨h.1,hw.trans h.2⟩
 | miter m since seen stepped =>
  obtain ⟨h0,m',h1,h2⟩:=h
  exact ⟨h0,m',hw.trans h1,h2.mono hl⟩
 | loop st pend fn nt tm params assign body dblk =>
  obtain ⟨tmps,d,h1,h2,h3,q,h4,h5⟩:=h
  exact ⟨tmps,d,hw.trans h1,h2,h3.mono hl,q,hl _ _ h4,h5⟩
 | dfr s=>exact hw.trans h
 | dead=>trivial
theorem Y7.lt {L:Lam} {w:World} {p:Pl} {o:AObj} (h:Y7 L w p o) (ha:o.alive = true):p.b < w.heap.size:=by
 have:∀ {ob:Obj},w.heap[p.b]? = some ob->p.b < w.heap.size:=fun h=>(Array.getElem?_eq_some_iff.1 h).1
 cases o with
 | cells=>obtain ⟨_,_,h1,_⟩:=h; exact this h1
 | map=>obtain ⟨_,h1,_⟩:=h; exact this h1
 | siter=>exact this h.2
 | miter=>obtain ⟨_,_,h1,_⟩:=h; exact this h1
 | loop=>obtain ⟨_,_,h1,_⟩:=h; exact this h1
 | dfr=>exact this h
 | dead=>simp [AObj.alive] at ha
structure Kept (w0 w:World):Prop where
 os:w.os = w0.os
 tape:w.tape = w0.tape
 output:w.output = w0.output
 size:w0.heap.size <= w.heap.size
 block:∀ k,k < w0.heap.size->w.heap[k]? = w0.heap[k]?
structure zH (w0:World) (G:Nat) (L:Lam) (H:AH) (w:World):Prop where
 obj:∀ b o p,H.get b = some o->L b = some p->Y7 L w p o
 inj:∀ b b' o o' p p',H.get b = some o->H.get b' = some o'->o.alive = true->o'.alive = true->L b = some p->L b' = some p'->p.b = p'.b->b = b'
 dom:∀ b p,L b = some p->b < H.nx
 own:∀ b p,G <= b->L b = some p->w0.heap.size <= p.b
 lt:∀ b p,L b = some p->p.b < w.heap.size
 keep:Kept w0 w
 glob:∀ g,g + 1 < G->L g = some ⟨g,0,0⟩
 gnx:G <= H.nx
def Lam.upd (L:Lam) (b:Nat) (p:Pl):Lam:=fun c=>if c = b then some p else L c
theorem Lam.le_upd {L:Lam} {b:Nat} {p:Pl} (h:L b = none):L.le (L.upd b p):=fun c q hc=>by
 unfold Lam.upd
 by_cases e:c = b
 ·subst e; rw [h] at hc; cases hc
 ·rw [if_neg e]; exact hc
def Lam.ext (n:Nat) (L L':Lam):Prop:=L.le L'/\∀ b,b < n->L' b = L b
theorem Lam.ext_refl (n:Nat) (L:Lam):Lam.ext n L L:=⟨Lam.le_refl L,fun _ _=>rfl⟩
theorem Lam.ext_upd {n:Nat} {L:Lam} {p:Pl} (h:L n = none):Lam.ext n L (L.upd n p) :=
 ⟨Lam.le_upd h,fun b hb=>by unfold Lam.upd; rw [if_neg (by omega)]⟩
theorem Lam.ext_mono {n m:Nat} {L L':Lam} (h:Lam.ext n L L') (hm:m <= n):Lam.ext m L L':=⟨h.1,fun b hb=>h.2 b (by omega)⟩
theorem Lam.ext_trans {n:Nat} {L L' L'':Lam} (h:Lam.ext n L L') (k:Lam.ext n L' L''):Lam.ext n L L'':=⟨Lam.le_trans h.1 k.1,fun b hb=>(k.2 b hb).trans (h.2 b hb)⟩
section
variable {w0:World} {G:Nat} {L:Lam} {H:AH} {w:World}
theorem zH.none_nx (h:zH w0 G L H w):L H.nx = none:=by
 cases hl:L H.nx with
 | none=>rfl
 | some p=>have:=h.dom _ _ hl; omega
theorem zH.same (h:zH w0 G L H w) {w':World} (h1:w'.heap = w.heap) (h2:w'.os = w.os) (h3:w'.tape = w.tape) (h4:w'.output = w.output):zH w0 G L H w' :=
 ⟨fun b o p a c=>(h.obj b o p a c).mono (Lam.le_refl L) (by rw [h1]),h.inj,h.dom,h.own,fun b p q=>by rw [h1]; exact h.lt b p q,
  ⟨h2.trans h.keep.os,h3.trans h.keep.tape,h4.trans h.keep.output,by rw [h1]; exact h.keep.size,fun k hk=>by rw [h1]; exact h.keep.block k hk⟩,h.glob,h.gnx⟩
theorem zH.push (h:zH w0 G L H w) {o:AObj} (hs:zq H.nx = true):zH w0 G L (H.push o) w:=by
 have hn:=h.none_nx
 have key:∀ b o' p,(H.push o).get b = some o'->L b = some p->H.get b = some o':=fun b o' p h1 h2=>by
  rw [AH.get_push hs] at h1
  by_cases e:b = H.nx
  ·subst e; rw [hn] at h2; cases h2
  ·rwa [if_neg e] at h1
 exact ⟨fun b o' p h1 h2=>h.obj b o' p (key b o' p h1 h2) h2,fun b b' o1 o2 p p' h1 h2 a1 a2 h3 h4 he=>h.inj b b' o1 o2 p p' (key b o1 p h1 h3) (key b' o2 p' h2 h4) a1 a2 h3 h4 he,
  fun b p hb=>by have:=h.dom b p hb; show b < H.nx + 1; omega,h.own,h.lt,h.keep,h.glob,by have:=h.gnx; show G <= H.nx + 1; omega⟩
structure zdJ (w w':World):Prop where
 size:w'.heap.size = w.heap.size + 1
 block:∀ k,k < w.heap.size->w'.heap[k]? = w.heap[k]?
 os:w'.os = w.os
 tape:w'.tape = w.tape
 output:w'.output = w.output
theorem zdJ.alloc (w:World) (o:Obj):zdJ w (w.alloc o) :=
 ⟨by simp [World.alloc,-World.alloc_eq],fun k hk=>by simp only [World.alloc]; rw [Array.getElem?_push_lt hk,zyK hk],rfl,rfl,rfl⟩
theorem zH.real (h:zH w0 G L H w) {b:Nat} {o:AObj} (hb:H.get b = some o) (hl:L b = none) (hG:G <= b) (hd:b < H.nx) {w':World} (hw:zdJ w w')
  {e:Nat} (ho:Y7 (L.upd b ⟨w.heap.size,0,e⟩) w' ⟨w.heap.size,0,e⟩ o):zH w0 G (L.upd b ⟨w.heap.size,0,e⟩) H w':=by
 have hold:=hw.block
 have hsz:=hw.size
 have hle:L.le (L.upd b ⟨w.heap.size,0,e⟩):=Lam.le_upd hl
 have hcase:∀ c p,(L.upd b ⟨w.heap.size,0,e⟩) c = some p->(c = b/\p = ⟨w.heap.size,0,e⟩) ∨ (c ≠ b/\L c = some p):=fun c p hc=>by
  unfold Lam.upd at hc
  by_cases q:c = b
  ·rw [if_pos q] at hc; cases hc; exact .inl ⟨q,rfl⟩
  ·rw [if_neg q] at hc; exact .inr ⟨q,hc⟩
 refine ⟨fun c o' p h1 h2=>?_,fun c c' o1 o2 p p' h1 h2 a1 a2 h3 h4 he=>?_,fun c p hc=>?_,fun c p hg hc=>?_,fun c p hc=>?_,?_,fun g hg=>?_,h.gnx⟩
 ·rcases hcase c p h2 with ⟨rfl,rfl⟩ | ⟨_,hc⟩
  ·rw [hb] at h1; cases h1; exact ho
  ·exact (h.obj c o' p h1 hc).mono hle (hold _ (h.lt c p hc))
 ·rcases hcase c p h3 with ⟨rfl,rfl⟩ | ⟨n1,hc⟩ <;> rcases hcase c' p' h4 with ⟨rfl,rfl⟩ | ⟨n2,hc'⟩
  ·rfl
  ·have:=h.lt c' p' hc'; simp only at he; omega
  ·have:=h.lt c p hc; simp only at he; omega
  ·exact h.inj c c' o1 o2 p p' h1 h2 a1 a2 hc hc' he
 ·rcases hcase c p hc with ⟨rfl,_⟩ | ⟨_,hc⟩
  ·exact hd
  ·exact h.dom c p hc
 ·rcases hcase c p hc with ⟨rfl,rfl⟩ | ⟨_,hc⟩
  ·exact h.keep.size
  ·exact h.own c p hg hc
 ·rw [hsz]
  rcases hcase c p hc with ⟨rfl,rfl⟩ | ⟨_,hc⟩
  ·simp
  ·have:=h.lt c p hc; omega
 ·refine ⟨hw.os.trans h.keep.os,hw.tape.trans h.keep.tape,hw.output.trans h.keep.output,by rw [hsz]; have:=h.keep.size; omega,fun k hk=>?_⟩
  rw [hold k (Nat.lt_of_lt_of_le hk h.keep.size)]
  exact h.keep.block k hk
 ·have:g ≠ b:=by omega
  unfold Lam.upd
  rw [if_neg this]
  exact h.glob g hg
theorem zH.upd (h:zH w0 G L H w) {b:Nat} {o o':AObj} {p:Pl} (hb:H.get b = some o) (ha:o.alive = true) (hp:L b = some p) (hG:G <= b) (hs:zq b = true) {w':World}
  (hw:∀ k,k ≠ p.b->w'.heap[k]? = w.heap[k]?) (hsz:w'.heap.size = w.heap.size) (h2:w'.os = w.os) (h3:w'.tape = w.tape) (h4:w'.output = w.output) (ho:Y7 L w' p o') :
  zH w0 G L (H.set b o') w':=by
 have hold:∀ c o1 q,c ≠ b->H.get c = some o1->L c = some q->Y7 L w' q o1:=fun c o1 q hc h1 h2=>by
  cases hal:o1.alive with
  | false=>cases o1 <;> first | trivial | simp [AObj.alive] at hal
  | true =>
   refine (h.obj c o1 q h1 h2).mono (Lam.le_refl L) (hw _ fun he=>hc ?_)
   exact h.inj c b o1 o q p h1 hb hal ha h2 hp he
 have halive:∀ c o1,(H.set b o').get c = some o1->(∃ o2,H.get c = some o2/\(o1.alive = true->o2.alive = true)):=fun c o1 h1=>by
  rw [AH.get_set hs] at h1
  by_cases e:c = b
  ·subst e; exact ⟨o,hb,fun _=>ha⟩
  ·rw [if_neg e] at h1; exact ⟨o1,h1,id⟩
 refine ⟨fun c o1 q h1 hq=>?_,fun c c' o1 o2 q q' h1 h2 a1 a2 hq hq' he=>?_,h.dom,h.own,fun c q hc=>by rw [hsz]; exact h.lt c q hc,?_,h.glob,h.gnx⟩
 ·rw [AH.get_set hs] at h1
  by_cases e:c = b
  ·subst e; rw [if_pos rfl] at h1; cases h1; rw [hp] at hq; cases hq; exact ho
  ·rw [if_neg e] at h1; exact hold c o1 q e h1 hq
 ·obtain ⟨o3,g3,m3⟩:=halive c o1 h1
  obtain ⟨o4,g4,m4⟩:=halive c' o2 h2
  exact h.inj c c' o3 o4 q q' g3 g4 (m3 a1) (m4 a2) hq hq' he
 ·refine ⟨h2.trans h.keep.os,h3.trans h.keep.tape,h4.trans h.keep.output,by rw [hsz]; exact h.keep.size,fun k hk=>?_⟩
  rw [hw k (by have:=h.own b p hG hp; omega)]
  exact h.keep.block k hk
theorem zH.kill (h:zH w0 G L H w) {b:Nat} (hs:zq b = true):zH w0 G L (H.set b .dead) w:=by
 have key:∀ c o1,(H.set b .dead).get c = some o1->o1 = .dead ∨ H.get c = some o1:=fun c o1 h1=>by
  rw [AH.get_set hs] at h1
  by_cases e:c = b
  ·subst e; rw [if_pos rfl] at h1; cases h1; exact .inl rfl
  ·rw [if_neg e] at h1; exact .inr h1
 refine ⟨fun c o1 q h1 hq=>?_,fun c c' o1 o2 q q' h1 h2 a1 a2 hq hq' he=>?_,h.dom,h.own,h.lt,h.keep,h.glob,h.gnx⟩
 ·rcases key c o1 h1 with rfl | h1
  ·trivial
  ·exact h.obj c o1 q h1 hq
 ·rcases key c o1 h1 with rfl | h1
  ·simp [AObj.alive] at a1
  ·rcases key c' o2 h2 with rfl | h2
   ·simp [AObj.alive] at a2
   ·exact h.inj c c' o1 o2 q q' h1 h2 a1 a2 hq hq' he
end
section
variable {w0:World} {G:Nat} {L:Lam} {H:AH} {w:World}
def zaT (H:AH) (b off k:Nat):Option (List Value) :=
 match H.get b with
 | some (.cells n t _ _ _)=>cond (Nat.ble (off + k) n) (t.row off k) none
 | _=>none
theorem ZF (h:zH w0 G L H w) {b off k:Nat} {vs:List Value} (hv:zaT H b off k = some vs) {p:Pl} (hp:L b = some p) :
  ∃ xs:List Value,LR L vs xs/\xs.length = k/\(∀ j x,xs[j]? = some x->w.cell? ⟨p.b,p.base + off + j,none⟩ = some x/\x.oneCell' = true):=by
 unfold zaT at hv
 split at hv
 ·rename_i n t ty op fz hb
  have hle:Nat.ble (off + k) n = true:=by
   cases hq:Nat.ble (off + k) n with
   | true=>rfl
   | false=>rw [hq] at hv; cases hv
  rw [hle] at hv
  simp only [cond_true] at hv
  have hle':off + k <= n:=by simpa using hle
  obtain ⟨cur,fr,h1,_,_,h4⟩:=h.obj b _ p hb hp
  obtain ⟨q1,q2⟩:=T.row_spec k off vs hv
  have hx:∀ j,j < k->∃ v x,vs[j]? = some v/\cur[p.base + off + j]? = some x/\VR L v x/\x.oneCell' = true:=fun j hj=>by
   obtain ⟨v,x,a1,a2,a3,a4⟩:=h4 (off + j) (by omega)
   rw [q2 j hj] at a1
   exact ⟨v,x,a1,by rw [<- a2]; congr 1; omega,a3,a4⟩
  have hsz:∀ j,j < k->p.base + off + j < cur.size:=fun j hj=>by
   obtain ⟨v,x,_,a2,_⟩:=hx j hj
   exact (Array.getElem?_eq_some_iff.1 a2).1
  refine ⟨(cur.toList.drop (p.base + off)).take k,⟨?_,fun j v x e1 e2=>?_⟩,?_,fun j x e=>?_⟩
  ·rw [q1,List.length_take,List.length_drop,Array.length_toList]
   rcases Nat.eq_zero_or_pos k with rfl | hk
   ·simp
   ·have:=hsz (k - 1) (by omega); omega
  ·have hj:j < k:=by
    have:=(List.getElem?_eq_some_iff.1 e1).1; omega
   obtain ⟨v',x',a1,a2,a3,a4⟩:=hx j hj
   rw [e1] at a1; cases a1
   rw [List.getElem?_take,if_pos hj,List.getElem?_drop,Array.getElem?_toList,a2] at e2
   cases e2
   exact a3
  ·rw [List.length_take,List.length_drop,Array.length_toList]
   rcases Nat.eq_zero_or_pos k with rfl | hk
   ·simp
   ·have:=hsz (k - 1) (by omega); omega
  ·rw [List.getElem?_take] at e
   split at e
   ·rename_i hj
    obtain ⟨v',x',a1,a2,a3,a4⟩:=hx j hj
    rw [List.getElem?_drop,Array.getElem?_toList,a2] at e
    cases e
    refine ⟨?_,a4⟩
    simp only [World.cell?,h1]
    simpa using a2
   ·cases e
 ·cases hv
end
end Go.Run
noncomputable section
namespace Go.Run
open Go.RowKit
def aggT (P:Program) (t:TypeId):Option Bool:=match P.underlying t with
 | some (.struct _) | some (.array _ _)=>some true
 | some _=>some false
 | none=>none
def sizeT (P:Program) (t:TypeId):Option Nat:=(P.info? t).map (·.size)
section
variable {P:Program}
theorem run_isAgg {t:TypeId} {b:Bool} (h:aggT P t = some b) (w:World):(isAgg t).run P w = .ok b w:=by
 unfold aggT at h
 unfold isAgg
 cases hu:P.underlying t with
 | none=>rw [hu] at h; simp at h
 | some d =>
  rw [hu] at h
  rw [Sem.run_bind,run_underlying hu w]
  cases d <;> simp_all
theorem run_sizeOf {t:TypeId} {n:Nat} (h:sizeT P t = some n) (w:World):(sizeOf t).run P w = .ok n w:=by
 unfold sizeT at h
 cases hi:P.info? t with
 | none=>simp [hi] at h
 | some i=>simp [hi] at h; simp [sizeOf,typeInfo,hi,h]
theorem Addr.add_none (b off n:Nat):(⟨b,off,none⟩:Addr).add n = ⟨b,off + n,none⟩:=by
 unfold Addr.add; split <;> simp_all
theorem run_loadVar_agg {t:TypeId} {b off:Nat} {w:World} {xs:List Value} (ha:aggT P t = some true) (hs:sizeT P t = some xs.length)
  (hc:∀ j x,xs[j]? = some x->w.cell? ⟨b,off + j,none⟩ = some x):(loadVar t ⟨b,off,none⟩).run P w = .ok (.agg xs.toArray) w:=by
 have hl:(loadCells ⟨b,off,none⟩ xs.length).run P w = .ok xs.toArray w :=
  run_loadCells_list (P:=P) w ⟨b,off,none⟩ xs (fun j v hv=>by rw [Addr.add_none]; exact hc j v hv)
 simp [loadVar,Sem.run_bind,run_isAgg ha,run_sizeOf hs,hl]
theorem run_loadVar_one {t:TypeId} {b off:Nat} {w:World} {x:Value} (ha:aggT P t = some false)
  (hc:w.cell? ⟨b,off,none⟩ = some x):(loadVar t ⟨b,off,none⟩).run P w = .ok x w:=by
 simp [loadVar,Sem.run_bind,run_isAgg ha,run_load,hc]
def zmL (P:Program) (H:AH) (t:TypeId) (v:Value):Option Value :=
 match v with
 | .pointer (some ⟨b,off,none⟩) =>
  match aggT P t,sizeT P t with
  | some true,some k=>match zaT H b off k with
   | some vs=>some (.agg vs.toArray)
   | none=>none
  | some false,_=>match zaT H b off 1 with
   | some [v]=>some v
   | _=>none
  | _,_=>none
 | _=>none
variable {w0:World} {G:Nat} {L:Lam} {H:AH} {w:World}
theorem zcO (h:zH w0 G L H w) {t:TypeId} {v r x:Value} (hr:zmL P H t v = some r) (hx:VR L v x):∃ a,x = .pointer (some a)/\∃ y,(loadVar t a).run P w = .ok y w/\VR L r y:=by
 unfold zmL at hr
 split at hr
 ·rename_i b off
  cases hx with
  | ptr hp =>
   rename_i p
   refine ⟨_,rfl,?_⟩
   split at hr
   ·rename_i k ha hs
    split at hr
    ·rename_i vs hc
     cases hr
     obtain ⟨xs,q1,q2,q3⟩:=ZF h hc hp
     refine ⟨.agg xs.toArray,run_loadVar_agg ha (by rw [q2]; exact hs) (fun j x e=>(q3 j x e).1),?_⟩
     exact .agg q1.toArray.1 q1.toArray.2
    ·cases hr
   ·rename_i ha
    split at hr
    ·rename_i v' hc
     cases hr
     obtain ⟨xs,q1,q2,q3⟩:=ZF h hc hp
     obtain ⟨y,ys,rfl,h1,h2⟩:=q1.cons_inv
     have:=(q3 0 y (by simp)).1
     exact ⟨y,run_loadVar_one ha (by simpa using this),h1⟩
    ·cases hr
   ·cases hr
 ·cases hr
def fieldT (P:Program) (s:TypeId) (i:Nat):Option (Nat × TypeId) :=
 match P.underlying s with
 | some (.struct fs)=>match fs[i]? with
  | some f=>some (f.offset,f.type)
  | none=>none
 | _=>none
theorem fieldT_spec {s:TypeId} {i off:Nat} {t:TypeId} (h:fieldT P s i = some (off,t)):∃ fs f,P.underlying s = some (.struct fs)/\fs[i]? = some f/\f.offset = off/\f.type = t:=by
 unfold fieldT at h
 split at h
 ·rename_i fs hu
  split at h
  ·rename_i f hf; cases h; exact ⟨fs,f,hu,hf,rfl,rfl⟩
  ·cases h
 ·cases h
def zqk (P:Program) (t:TypeId) (cs:List Value) (off:Nat):Option Value :=
 match aggT P t,sizeT P t with
 | some true,some n=>some (.agg ((cs.drop off).take n).toArray)
 | some false,_=>cs[off]?
 | _,_=>none
theorem run_part_agg {t:TypeId} {n off:Nat} {xs:Array Value} (ha:aggT P t = some true) (hs:sizeT P t = some n) (w:World) :
  (part t xs off).run P w = .ok (.agg ((xs.toList.drop off).take n).toArray) w:=by
 have:xs.extract off (off + n) = ((xs.toList.drop off).take n).toArray:=by
  apply Array.ext'
  simp [List.extract,Nat.add_sub_cancel_left]
 simp [part,Sem.run_bind,run_isAgg ha,run_sizeOf hs,this]
theorem run_part_one {t:TypeId} {off:Nat} {xs:Array Value} {x:Value} (ha:aggT P t = some false) (hx:xs[off]? = some x) (w:World) :
  (part t xs off).run P w = .ok x w:=by
 simp [part,Sem.run_bind,run_isAgg ha,hx]
theorem zhd {t:TypeId} {cs xs:Array Value} {off:Nat} {r:Value} (hr:zqk P t cs.toList off = some r) (h:AR L cs xs) (w:World):∃ y,(part t xs off).run P w = .ok y w/\VR L r y:=by
 unfold zqk at hr
 split at hr
 ·rename_i n ha hs
  cases hr
  refine ⟨_,run_part_agg ha hs w,?_⟩
  have:=(h.toList.drop off).take n
  exact .agg this.toArray.1 this.toArray.2
 ·rename_i ha
  obtain ⟨x,h1,h2⟩:=h.get (i:=off) (v:=r) (by simpa using hr)
  exact ⟨x,run_part_one ha h1 w,h2⟩
 ·cases hr
end
end Go.Run
noncomputable section
namespace Go.Run
open Go.RowKit
abbrev Ev:=Operand->Value
def opq:Value:=.slice (some ⟨0,0,some 1⟩) 0 0
def zyn:Value->Option Int
 | .int _ n=>some n
 | _=>none
def ixA (v:Value) (n:Nat):Option Nat :=
 match v with
 | .int _ (.ofNat i)=>cond (Nat.blt i n) (some i) none
 | _=>none
def zcP (P:Program) (s:TypeId) (v:Value) (i:Nat):Option Value :=
 match v with
 | .pointer (some ⟨b,o,none⟩)=>match fieldT P s i with
  | some (off,t)=>match sizeT P t with
   | some (_ + 1)=>some (.pointer (some ⟨b,o + off,none⟩))
   | _=>none
  | none=>none
 | _=>none
def Q2 (P:Program) (t:TypeId):Option (Option Nat × TypeId) :=
 match P.underlying t with
 | some (.slice e)=>some (none,e)
 | some (.array n e)=>some (some n,e)
 | _=>none
def zcQ (P:Program) (t:TypeId) (x ix:Value):Option Value :=
 match Q2 P t with
 | some (some n,e)=>match x,ixA ix n,sizeT P e with
  | .pointer (some ⟨b,o,none⟩),some i,some sz=>some (.pointer (some ⟨b,o + i * sz,none⟩))
  | _,_,_=>none
 | some (none,e)=>match x with
  | .slice (some ⟨b,o,none⟩) len _=>match ixA ix len,sizeT P e with
   | some i,some sz=>some (.pointer (some ⟨b,o + i * sz,none⟩))
   | _,_=>none
  | _=>none
 | none=>none
def zoL (P:Program) (s:TypeId) (x:Value) (i:Nat):Option Value :=
 match x,fieldT P s i with
 | .agg cs,some (off,t)=>zqk P t cs.toList off
 | _,_=>none
def zoM (P:Program) (t:TypeId) (x ix:Value):Option Value :=
 match x,Q2 P t with
 | .agg cs,some (some n,e)=>match ixA ix n,sizeT P e with
  | some i,some sz=>zqk P e cs.toList (i * sz)
  | _,_=>none
 | _,_=>none
section
variable {P:Program} {w0:World} {G:Nat} {L:Lam} {H:AH} {w:World}
theorem zhe {v x:Value} {n i:Nat} (h:ixA v n = some i) (hr:VR L v x):∃ k,x = .int k (i:Int)/\i < n:=by
 unfold ixA at h
 split at h
 ·rename_i k j
  cases hr
  cases hb:Nat.blt j n with
  | false=>rw [hb] at h; cases h
  | true =>
   rw [hb] at h; cases h
   exact ⟨k,rfl,by simpa using hb⟩
 ·cases h
theorem run_fieldAt {s:TypeId} {i off n:Nat} {t:TypeId} (hf:fieldT P s i = some (off,t)) (hs:sizeT P t = some (n + 1)) (b a:Nat) (w:World) :
  (Instr.fieldAt s (.pointer (some ⟨b,a,none⟩)) i).run P w = .ok (.pointer (some ⟨b,a + off,none⟩)) w:=by
 obtain ⟨fs,f,hu,hi,h1,h2⟩:=fieldT_spec hf
 subst h2; subst h1
 simp [Instr.fieldAt,Sem.run_bind,run_underlying hu,hi,Instr.sureAddr,fieldPlace,run_sizeOf hs,Addr.add_none]
theorem zf1 {s:TypeId} {v x r:Value} {i:Nat} (h:zcP P s v i = some r) (hr:VR L v x) (w:World):∃ y,(Instr.fieldAt s x i).run P w = .ok y w/\VR L r y:=by
 unfold zcP at h
 split at h
 ·rename_i b o
  cases hr with
  | ptr hp =>
   rename_i p
   split at h
   ·rename_i off t hf
    split at h
    ·rename_i n hs
     cases h
     refine ⟨_,run_fieldAt hf hs _ _ w,?_⟩
     have:=VR.ptr (o:=o + off) hp
     rwa [<- Nat.add_assoc] at this
    ·cases h
   ·cases h
 ·cases h
theorem qS {t e:TypeId} (h:Q2 P t = some (none,e)):P.underlying t = some (.slice e):=by
 unfold Q2 at h
 split at h <;> first | (cases h; done) | (cases h; assumption)
theorem zbO {t e:TypeId} {n:Nat} (h:Q2 P t = some (some n,e)):P.underlying t = some (.array n e):=by
 unfold Q2 at h
 split at h <;> first | (cases h; done) | (cases h; assumption)
theorem zf2 {t:TypeId} {v ix x y r:Value} (h:zcQ P t v ix = some r) (hr:VR L v x) (hi:VR L ix y) (w:World):∃ z,(Instr.indexAt t x y).run P w = .ok z w/\VR L r z:=by
 unfold zcQ at h
 split at h
 ·rename_i n e he
  have hu:=zbO he
  split at h
  ·rename_i b o i sz hix hs
   cases h
   cases hr with
   | ptr hp =>
    rename_i p
    obtain ⟨k,rfl,hlt⟩:=zhe hix hi
    refine ⟨.pointer (some ⟨p.b,p.base + o + i * sz,none⟩),?_,?_⟩
    ·have h2:(0:Int) <= i/\(i:Int) < n:=by omega
     simp [Instr.indexAt,Sem.run_bind,asIntOf,run_underlying hu,Instr.sureAddr,h2,run_sizeOf hs,Addr.add_none]
     intro h3; omega
    ·have:=VR.ptr (o:=o + i * sz) hp
     rwa [<- Nat.add_assoc] at this
  ·cases h
 ·rename_i e he
  have hu:=qS he
  split at h
  ·rename_i b o len cap
   split at h
   ·rename_i i sz hix hs
    cases h
    cases hr with
    | slice hp =>
     rename_i p
     obtain ⟨k,rfl,hlt⟩:=zhe hix hi
     refine ⟨.pointer (some ⟨p.b,p.base + o + i * sz,none⟩),?_,?_⟩
     ·have h2:(0:Int) <= i/\(i:Int) < len:=by omega
      simp [Instr.indexAt,Sem.run_bind,asIntOf,run_underlying hu,h2,run_sizeOf hs,Addr.add_none]
      intro h3; omega
     ·have:=VR.ptr (o:=o + i * sz) hp
      rwa [<- Nat.add_assoc] at this
   ·cases h
  ·cases h
 ·cases h
theorem zmM {s:TypeId} {v x r:Value} {i:Nat} (h:zoL P s v i = some r) (hr:VR L v x) (w:World):∃ y,(Instr.field s x i).run P w = .ok y w/\VR L r y:=by
 unfold zoL at h
 split at h
 ·rename_i cs off t hf
  obtain ⟨fs,f,hu,hi,h1,h2⟩:=fieldT_spec hf
  subst h2; subst h1
  cases hr with
  | agg a b =>
   rename_i xs
   obtain ⟨y,h1,h2⟩:=zhd h ⟨a,b⟩ w
   exact ⟨y,by simp [Instr.field,Sem.run_bind,run_underlying hu,hi,asAgg,h1],h2⟩
 ·cases h
theorem zmN {t:TypeId} {v ix x y r:Value} (h:zoM P t v ix = some r) (hr:VR L v x) (hi:VR L ix y) (w:World):∃ z,(Instr.index t x y).run P w = .ok z w/\VR L r z:=by
 unfold zoM at h
 split at h
 ·rename_i cs n e he
  have hu:=zbO he
  split at h
  ·rename_i i sz hix hs
   cases hr with
   | agg a b =>
    rename_i xs
    obtain ⟨k,rfl,hlt⟩:=zhe hix hi
    obtain ⟨z,h1,h2⟩:=zhd h ⟨a,b⟩ w
    have h3:(0:Int) <= i/\(i:Int) < n:=by omega
    exact ⟨z,by simp [Instr.index,Sem.run_bind,asIntOf,run_underlying hu,h3,run_sizeOf hs,h1]; intro h4; omega,h2⟩
  ·cases h
 ·cases h
end
end Go.Run
noncomputable section
namespace Go.Run
open Go.RowKit
def zeroT (P:Program) (t:TypeId):Option Value:=match P.info? t with
 | some i=>match i.zero with
  | some z=>cond (flat z) (some z) none
  | none=>none
 | none=>none
def zkK (v:Value) (y:Nat):Option Nat :=
 match v with
 | .int _ (.ofNat i)=>cond (Nat.ble i y) (some i) none
 | _=>none
def zbP (len cap:Nat) (lo hi mx:Option Value):Option (Nat × Nat × Nat) :=
 match (match mx with | some v=>zkK v cap | none=>some cap) with
 | none=>none
 | some m=>match (match hi,mx with | some v,_=>zkK v m | none,none=>some len | none,some _=>none) with
  | none=>none
  | some h=>match (match lo with | some v=>zkK v h | none=>some 0) with
   | none=>none
   | some l=>some (l,h,m)
def zoN (P:Program) (t:TypeId) (x:Value) (lo hi mx:Option Value):Option Value :=
 match Q2 P t with
 | some (some n,e)=>match x with
  | .pointer (some ⟨b,o,none⟩)=>match zbP n n lo hi mx,sizeT P e with
   | some (l,h,m),some sz=>some (.slice (some ⟨b,cond (Nat.beq m l) o (o + l * sz),none⟩) (h - l) (2 * (m - l)))
   | _,_=>none
  | _=>none
 | some (none,e)=>match x with
  | .slice (some ⟨b,o,none⟩) len cap =>
   match zbP len (cap / 2) lo hi mx,sizeT P e with
   | some (l,h,m),some sz =>
    cond (ZX cap && mx.isNone)
     (cond (Nat.beq m l) (cond (Nat.beq h l) (cond (Nat.beq l 0) (some (.slice (some ⟨b,o,none⟩) 0 cap)) (some opq)) none) (cond (Nat.ble l m) (some (.slice (some ⟨b,o + l * sz,none⟩) (h - l) (2 * (m - l) + 1))) none))
     (some (.slice (some ⟨b,cond (Nat.beq m l) o (o + l * sz),none⟩) (h - l) (2 * (m - l))))
   | _,_=>none
  | .slice none 0 0=>match zbP 0 0 lo hi mx,sizeT P e with
   | some (0,0,0),some _=>some (.slice none 0 0)
   | _,_=>none
  | _=>none
 | none=>none
section
variable {P:Program} {w0:World} {G:Nat} {L:Lam} {H:AH} {w:World}
theorem zrh {v x:Value} {y n:Nat} (h:zkK v y = some n) (hr:VR L v x):∃ k,x = .int k (n:Int)/\n <= y:=by
 unfold zkK at h
 split at h
 ·rename_i k j
  cases hr
  cases hb:Nat.ble j y with
  | false=>rw [hb] at h; cases h
  | true=>rw [hb] at h; cases h; exact ⟨k,rfl,by simpa using hb⟩
 ·cases h
theorem zjt {v:Value} {y y' n:Nat} (h:zkK v y = some n) (hy:y <= y'):zkK v y' = some n:=by
 unfold zkK at h ⊢
 split at h
 ·rename_i k j
  cases hb:Nat.ble j y with
  | false=>rw [hb] at h; cases h
  | true =>
   rw [hb] at h; cases h
   have:n <= y:=by simpa using hb
   have:Nat.ble n y' = true:=by simp; omega
   simp only [this]; rfl
 ·cases h
theorem run_sliceBound {v x:Value} {y n:Nat} (h:zkK v y = some n) (hr:VR L v x) (c:BoundsCode) (w:World):(Instr.sliceBound x y c).run P w = .ok n w:=by
 obtain ⟨k,rfl,hn⟩:=zrh h hr
 have:(0:Int) <= n/\(n:Int) <= y:=by omega
 simp [Instr.sliceBound,asIntOf,this]
def OR (L:Lam):Option Value->Option Value->Prop
 | none,none=>True
 | some v,some x=>VR L v x
 | _,_=>False
theorem Y8 {lo hi mx lo' hi' mx':Option Value} {len cap l h m:Nat} (hb:zbP len cap lo hi mx = some (l,h,m)) (h1:OR L lo lo') (h2:OR L hi hi') (h3:OR L mx mx') (b:Bool) (w:World) :
  (Instr.sliceBounds b len cap lo' hi' mx').run P w = .ok (l,h,m) w:=by
 unfold zbP at hb
 cases mx with
 | none =>
  cases mx' with
  | some _=>exact h3.elim
  | none =>
   cases hi with
   | none =>
    cases hi' with
    | some _=>exact h2.elim
    | none =>
     cases lo with
     | none =>
      cases lo' with
      | some _=>exact h1.elim
      | none=>simp at hb; obtain ⟨rfl,rfl,rfl⟩:=hb; simp [Instr.sliceBounds]
     | some v =>
      cases lo' with
      | none=>exact h1.elim
      | some x =>
       simp only at hb
       split at hb
       ·cases hb
       ·rename_i l' hl; simp at hb; obtain ⟨rfl,rfl,rfl⟩:=hb
        simp [Instr.sliceBounds,run_sliceBound hl h1]
   | some vh =>
    cases hi' with
    | none=>exact h2.elim
    | some xh =>
     simp only at hb
     split at hb
     ·cases hb
     ·rename_i h' hh
      cases lo with
      | none =>
       cases lo' with
       | some _=>exact h1.elim
       | none=>simp at hb; obtain ⟨rfl,rfl,rfl⟩:=hb; simp [Instr.sliceBounds,run_sliceBound hh h2]
      | some v =>
       cases lo' with
       | none=>exact h1.elim
       | some x =>
        simp only at hb
        split at hb
        ·cases hb
        ·rename_i l' hl; simp at hb; obtain ⟨rfl,rfl,rfl⟩:=hb
         simp [Instr.sliceBounds,run_sliceBound hh h2,run_sliceBound hl h1]
 | some vm =>
  cases mx' with
  | none=>exact h3.elim
  | some xm =>
   cases hi with
   | none =>
    simp only at hb
    split at hb
    ·cases hb
    ·cases hb
   | some vh =>
    cases hi' with
    | none=>exact h2.elim
    | some xh =>
     simp only at hb
     split at hb
     ·cases hb
     ·rename_i m' hm
      split at hb
      ·cases hb
      ·rename_i h' hh
       cases lo with
       | none =>
        cases lo' with
        | some _=>exact h1.elim
        | none=>simp at hb; obtain ⟨rfl,rfl,rfl⟩:=hb; simp [Instr.sliceBounds,run_sliceBound hm h3,run_sliceBound hh h2]
       | some v =>
        cases lo' with
        | none=>exact h1.elim
        | some x =>
         simp only at hb
         split at hb
         ·cases hb
         ·rename_i l' hl; simp at hb; obtain ⟨rfl,rfl,rfl⟩:=hb
          simp [Instr.sliceBounds,run_sliceBound hm h3,run_sliceBound hh h2,run_sliceBound hl h1]
theorem zhf {lo hi mx:Option Value} {len cap cap' l h m:Nat} (hb:zbP len cap lo hi mx = some (l,h,m)) (hc:cap <= cap'):zbP len cap' lo hi mx = some (l,h,if mx.isNone then cap' else m):=by
 unfold zbP at hb ⊢
 cases mx with
 | none =>
  simp only at hb ⊢
  cases hi with
  | none =>
   simp only at hb ⊢
   cases lo with
   | none=>simp at hb ⊢; exact ⟨hb.1,hb.2.1⟩
   | some v =>
    simp only at hb ⊢
    split at hb
    ·cases hb
    ·rename_i l' hl; simp at hb ⊢; exact ⟨hb.1,hb.2.1⟩
  | some vh =>
   simp only at hb ⊢
   split at hb
   ·cases hb
   ·rename_i h' hh
    rw [zjt hh hc]
    simp only
    cases lo with
    | none=>simp at hb ⊢; exact ⟨hb.1,hb.2.1⟩
    | some v =>
     simp only at hb ⊢
     split at hb
     ·cases hb
     ·rename_i l' hl; simp at hb ⊢; exact ⟨hb.1,hb.2.1⟩
 | some vm =>
  simp only at hb ⊢
  split at hb
  ·cases hb
  ·rename_i m' hm
   rw [zjt hm hc]
   simpa using hb
theorem run_slice_any {t e:TypeId} {sz l h m:Nat} {b o len cap:Nat} {lo hi mx lo' hi' mx':Option Value} (hu:P.underlying t = some (.slice e)) (hs:sizeT P e = some sz)
  (hb:zbP len cap lo hi mx = some (l,h,m)) (h1:OR L lo lo') (h2:OR L hi hi') (h3:OR L mx mx') (w:World) :
  (Instr.sliceAt t (.slice (some ⟨b,o,none⟩) len cap) lo' hi' mx').run P w = .ok (.slice (some ⟨b,if m = l then o else o + l * sz,none⟩) (h - l) (m - l)) w:=by
 have:=Y8 (P:=P) hb h1 h2 h3 true w
 simp only [Instr.sliceAt,Sem.run_bind,run_underlying hu,Result.andThen_ok,Instr.slice,this,run_sizeOf hs,Sem.run_pure]
 by_cases hm:m = l <;> simp [hm,Addr.add_none]
theorem zoO {lo hi:Option Value} {len cap l h m:Nat} (hb:zbP len cap lo hi none = some (l,h,m)):m = cap:=by
 unfold zbP at hb
 simp only at hb
 split at hb
 ·cases hb
 ·split at hb
  ·cases hb
  ·cases hb; rfl
theorem zmO {t:TypeId} {x y r:Value} {lo hi mx lo' hi' mx':Option Value} (hr:zoN P t x lo hi mx = some r) (hx:VR L x y) (h1:OR L lo lo') (h2:OR L hi hi') (h3:OR L mx mx') (w:World) :
  ∃ z,(Instr.sliceAt t y lo' hi' mx').run P w = .ok z w/\VR L r z:=by
 have cb:∀ (m l a c:Nat),(bif Nat.beq m l then a else c) = if m = l then a else c:=fun m l a c=>by
  by_cases q:m = l
  ·subst q; simp
  ·rw [beqF q,if_neg q]; rfl
 unfold zoN at hr
 split at hr
 ·rename_i n e he
  have hu:=zbO he
  split at hr
  ·rename_i b o
   split at hr
   ·rename_i l h m sz hb hs
    cases hr
    cases hx with
    | ptr hp =>
     rename_i p
     have:=Y8 (P:=P) hb h1 h2 h3 false w
     refine ⟨.slice (some ⟨p.b,p.base + (if m = l then o else o + l * sz),none⟩) (h - l) (m - l),?_,?_⟩
     ·simp only [Instr.sliceAt,Sem.run_bind,run_underlying hu,Result.andThen_ok,Instr.sureAddr,this,run_sizeOf hs,Sem.run_pure]
      by_cases hm:m = l <;> simp [hm,Addr.add_none,Nat.add_assoc]
     ·rw [cb]
      have hv:=VR.slice (o:=if m = l then o else o + l * sz) (len:=h - l) (cap:=2 * (m - l)) hp
      rwa [zcg] at hv
   ·cases hr
  ·cases hr
 ·rename_i e he
  have hu:=qS he
  split at hr
  ·rename_i b o len cap
   split at hr
   ·rename_i l h m sz hb hs
    cases hx with
    | slice hp =>
     rename_i p
     cases hop:ZX cap with
     | false =>
      rw [hop] at hr
      simp only [Bool.false_and,cond_false] at hr
      cases hr
      rw [YQ hop]
      refine ⟨_,run_slice_any hu hs hb h1 h2 h3 w,?_⟩
      rw [cb]
      have hv:=VR.slice (o:=if m = l then o else o + l * sz) (len:=h - l) (cap:=2 * (m - l)) hp
      rw [zcg] at hv
      by_cases q:m = l
      ·simpa [q] using hv
      ·simpa [q,Nat.add_assoc] using hv
     | true =>
      rw [hop] at hr
      simp only [Bool.true_and] at hr
      rw [zay hop]
      have hcap:=zmK hop
      cases mx with
      | some vm =>
       simp only [Option.isNone_some,cond_false] at hr
       cases hr
       have hb':=zhf (cap':=cap / 2 + p.ext) hb (by omega)
       simp only [Option.isNone_some,Bool.false_eq_true,if_false] at hb'
       refine ⟨_,run_slice_any hu hs hb' h1 h2 h3 w,?_⟩
       rw [cb]
       have hv:=VR.slice (o:=if m = l then o else o + l * sz) (len:=h - l) (cap:=2 * (m - l)) hp
       rw [zcg] at hv
       by_cases q:m = l
       ·simpa [q] using hv
       ·simpa [q,Nat.add_assoc] using hv
      | none =>
       simp only [Option.isNone_none,cond_true] at hr
       have hmk:=zoO hb
       have hb':=zhf (cap':=cap / 2 + p.ext) hb (by omega)
       simp only [Option.isNone_none,if_true] at hb'
       have hrun:=run_slice_any (P:=P) (b:=p.b) (o:=p.base + o) hu hs hb' h1 h2 h3 w
       by_cases q:m = l
       ·rw [q] at hr
        simp only [Nat.beq_refl,cond_true] at hr
        by_cases q2:h = l
        ·subst q2
         simp only [Nat.beq_refl,cond_true] at hr
         by_cases q3:h = 0
         ·subst q3
          simp only [Nat.beq_refl,cond_true] at hr
          cases hr
          refine ⟨_,hrun,?_⟩
          have hv:=VR.slice (o:=o) (len:=0) (cap:=cap) hp
          rw [zay hop] at hv
          simpa using hv
         ·rw [beqF q3] at hr
          simp only [cond_false] at hr
          cases hr
          refine ⟨_,hrun,?_⟩
          rw [Nat.sub_self]
          exact .opq _ _
        ·rw [beqF q2] at hr
         simp only [cond_false] at hr
         cases hr
       ·rw [beqF q] at hr
        simp only [cond_false] at hr
        cases hl:Nat.ble l m with
        | false=>rw [hl] at hr; cases hr
        | true =>
         rw [hl] at hr
         cases hr
         have hl:l <= m:=by simpa using hl
         refine ⟨_,hrun,?_⟩
         rw [if_neg (by omega)]
         have hv:=VR.slice (o:=o + l * sz) (len:=h - l) (cap:=2 * (m - l) + 1) hp
         rw [zbM,show m - l + p.ext = cap / 2 + p.ext - l by omega] at hv
         simpa [Nat.add_assoc] using hv
   ·cases hr
  ·split at hr
   ·rename_i sz hb hs
    cases hr
    cases hx
    have:=Y8 (P:=P) hb h1 h2 h3 true w
    exact ⟨.slice none 0 0,by simp [Instr.sliceAt,Sem.run_bind,run_underlying hu,Instr.slice,this,run_sizeOf hs],.nils⟩
   ·cases hr
  ·cases hr
 ·cases hr
end
end Go.Run
noncomputable section
namespace Go.Run
open Go.RowKit
theorem VR.oneCell {L:Lam} {v x:Value} (h:VR L v x):x.oneCell' = v.oneCell':=by cases h <;> rfl
theorem yz {P:Program} {w:World} {r:Nat} {o:Obj} (h:w.heap[r]? = some o) (hc:(match o with | .cells ..=>false | _=>true) = true):(getObj r).run P w = .ok o w:=by
 cases o <;> first | (simp at hc; done) | simp [getObj,Sem.run,h]
section
variable {P:Program} {w0:World} {G:Nat} {L:Lam} {H:AH} {w:World}
theorem zeroT_spec {t:TypeId} {z:Value} (h:zeroT P t = some z):(∀ w,(zeroValue t).run P w = .ok z w)/\flat z = true:=by
 unfold zeroT at h
 split at h
 ·rename_i i hi
  split at h
  ·rename_i z' hz
   cases hf:flat z' with
   | false=>rw [hf] at h; cases h
   | true =>
    rw [hf] at h; cases h
    exact ⟨fun w=>by simp [zeroValue,typeInfo,hi,hz],hf⟩
  ·cases h
 ·cases h
def zhg (place:Nat->Option (Nat × Nat)) (cells:List Value):List (Nat × Value)->Option (List Value)
 | []=>some cells
 | (i,v) :: rest=>match place i with
  | some (off,size)=>cond (Nat.beq v.cells.size size && Nat.ble (off + size) cells.length) (zhg place (cells.take off++v.cells.toList++cells.drop (off + size)) rest) none
  | none=>none
theorem foldl_set (xs:List Value):∀ (j:Nat) (cs:Array Value) (off:Nat),off + j + xs.length <= cs.size ->
  ((xs.zipIdx j).foldl (fun cs (c,j)=>cs.setIfInBounds (off + j) c) cs).toList = cs.toList.take (off + j)++xs++cs.toList.drop (off + j + xs.length):=by
 induction xs with
 | nil=>intro j cs off h; simp
 | cons x xs ih =>
  intro j cs off h
  simp only [List.zipIdx_cons,List.foldl_cons]
  rw [ih (j + 1) _ off (by simp at h ⊢; omega)]
  have e:∀ (l:List Value) (k:Nat),k + (x :: xs).length <= l.length->(l.set k x).take (k + 1)++xs++(l.set k x).drop (k + 1 + xs.length) = l.take k++(x :: xs)++l.drop (k + (x :: xs).length):=by
   intro l k hk
   simp only [List.length_cons] at hk
   have h1:(l.set k x).take (k + 1) = l.take k++[x]:=by
    rw [List.take_add_one,List.take_set_of_le (zyF k)]
    congr 1
    rw [List.getElem?_set_self (by omega)]; rfl
   have h2:(l.set k x).drop (k + 1 + xs.length) = l.drop (k + (x :: xs).length):=by
    rw [List.drop_set_of_lt (by omega)]
    simp [Nat.add_assoc,Nat.add_comm 1]
   rw [h1,h2]; simp
  have:=e cs.toList (off + j) (by simp only [List.length_cons,Array.length_toList] at h ⊢; omega)
  simpa [Array.toList_setIfInBounds,Nat.add_assoc] using this
theorem zaU {place:Nat->Option (Nat × Nat)}:∀ (parts vals:List (Nat × Value)) (cells:List Value) (cur:Array Value) (out:List Value),
  parts.map (·.1) = vals.map (·.1)->LR L (parts.map (·.2)) (vals.map (·.2))->LR L cells cur.toList->zhg place cells parts = some out ->
  ∃ cur':Array Value,Instr.fill place cur vals = some cur'/\LR L out cur'.toList
 | [],vals,cells,cur,out,h1,_,h3,h5=>by
  simp only [zhg,zyO] at h5; subst h5
  have:vals = []:=by cases vals with | nil=>rfl | cons _ _=>simp at h1
  subst this
  exact ⟨cur,rfl,h3⟩
 | (i,v) :: parts,vals,cells,cur,out,h1,h2,h3,h5=>by
  cases vals with
  | nil=>simp at h1
  | cons x vals =>
   obtain ⟨i',x⟩:=x
   simp only [List.map_cons,List.cons.injEq] at h1
   obtain ⟨rfl,h1⟩:=h1
   simp only [List.map_cons] at h2
   obtain ⟨hv,h2⟩:=h2.of_cons
   simp only [zhg] at h5
   split at h5
   ·rename_i off size hp
    cases hc:(Nat.beq v.cells.size size && Nat.ble (off + size) cells.length) with
    | false=>rw [hc] at h5; cases h5
    | true =>
     rw [hc] at h5
     simp only [cond_true] at h5
     simp only [zyL] at hc
     have hsz:v.cells.size = size:=zyM hc.1
     have hfit:off + size <= cells.length:=by simpa using hc.2
     have hcells:=hv.cells
     have hsx:x.cells.size = size:=by rw [<- hcells.1]; exact hsz
     have hlen:=h3.1
     simp at hlen
     have hfold:=foldl_set x.cells.toList 0 cur off (by simp [hsx]; omega)
     simp only [Nat.add_zero,Array.length_toList,hsx] at hfold
     generalize hcur':(x.cells.zipIdx.foldl (fun cs (c,j)=>cs.setIfInBounds (off + j) c) cur) = cur'
     have hcur'':cur'.toList = cur.toList.take off++x.cells.toList++cur.toList.drop (off + size):=by
      rw [<- hfold,<- hcur',<- Array.foldl_toList,Array.toList_zipIdx]
     obtain ⟨cf,q1,q2⟩:=zaU parts vals _ cur' out h1 h2 (by
      rw [hcur'']; exact ((h3.take off).append hcells.toList).append (h3.drop (off + size))) h5
     refine ⟨cf,?_,q2⟩
     simp only [Instr.fill,hp,hsx]
     rw [if_neg (by simp; omega),hcur']
     exact q1
   ·cases h5
def zdK (P:Program):List Field->Option (List (Nat × Nat))
 | []=>some []
 | f :: fs=>match sizeT P f.type,zdK P fs with
  | some n,some l=>some ((f.offset,n) :: l)
  | _,_=>none
theorem zdL {g:Field->Sem (Nat × Nat)} (hg:∀ f n w,sizeT P f.type = some n->(g f).run P w = .ok (f.offset,n) w):∀ (fs:List Field) (l:List (Nat × Nat)) (w:World),zdK P fs = some l ->
  (fs.mapM g).run P w = .ok l w
 | [],l,w,h=>by simp only [zdK,zyO] at h; subst h; simp
 | f :: fs,l,w,h=>by
  simp only [zdK] at h
  split at h
  ·rename_i n l' hs hr
   cases h
   simp [List.mapM_cons,hg f n w hs,zdL hg fs l' w hr]
  ·cases h
def buildA (P:Program) (t:TypeId) (parts:List (Nat × Value)):Option Value :=
 match zeroT P t with
 | none=>none
 | some z=>match P.underlying t with
  | some (.struct fs)=>match zdK P fs.toList with
   | some l=>match zhg (fun i=>l[i]?) z.cells.toList parts with
    | some out=>some (.agg out.toArray)
    | none=>none
   | none=>none
  | some (.array _ e)=>match sizeT P e with
   | some n=>match zhg (fun i=>some (i * n,n)) z.cells.toList parts with
    | some out=>some (.agg out.toArray)
    | none=>none
   | none=>none
  | _=>none
theorem zmP {t:TypeId} {parts vals:List (Nat × Value)} {r:Value} (hr:buildA P t parts = some r) (h1:parts.map (·.1) = vals.map (·.1)) (h2:LR L (parts.map (·.2)) (vals.map (·.2))) (w:World) :
  ∃ y,(Instr.build t vals.toArray).run P w = .ok y w/\VR L r y:=by
 unfold buildA at hr
 split at hr
 ·cases hr
 ·rename_i z hz
  obtain ⟨hzr,hzf⟩:=zeroT_spec hz
  have hz0:LR L z.cells.toList z.cells.toList:=((VR.refl_flat (L:=L) hzf).cells).toList
  split at hr
  ·rename_i fs hu
   split at hr
   ·rename_i l hl
    split at hr
    ·rename_i out ho
     cases hr
     obtain ⟨cur,q1,q2⟩:=zaU parts vals _ z.cells out h1 h2 hz0 ho
     have hm:∀ g:Field->Sem (Nat × Nat),(∀ f n w,sizeT P f.type = some n->(g f).run P w = .ok (f.offset,n) w)->(fs.mapM g).run P w = .ok l.toArray w:=by
      intro g hg
      rw [<- Array.toArray_toList (xs:=fs),List.mapM_toArray]
      simp [zdL hg fs.toList l w hl]
     have hm':=hm (fun f=>Prod.mk f.offset <$> sizeOf f.type) (fun f n w hs=>by simp [run_sizeOf hs])
     exact ⟨.agg cur,by simp [Instr.build,hzr w,run_underlying hu,hm',q1],.agg (by simpa using q2.1) (AR.of_toList q2).2⟩
    ·cases hr
   ·cases hr
  ·rename_i len e hu
   split at hr
   ·rename_i n hs
    split at hr
    ·rename_i out ho
     cases hr
     obtain ⟨cur,q1,q2⟩:=zaU parts vals _ z.cells out h1 h2 hz0 ho
     exact ⟨.agg cur,by simp [Instr.build,hzr w,run_underlying hu,run_sizeOf hs,q1],.agg (by simpa using q2.1) (AR.of_toList q2).2⟩
    ·cases hr
   ·cases hr
  ·cases hr
def zwO (P:Program) (H:AH) (t:TypeId) (x:Value):Option Value :=
 match P.underlying t with
 | some (.array n _)=>some (goInt n)
 | some (.pointer e)=>match P.underlying e with
  | some (.array n _)=>some (goInt n)
  | _=>none
 | some (.slice _)=>match x with
  | .slice _ n _=>some (goInt n)
  | _=>none
 | some (.map _ _)=>match x with
  | .map (some b)=>match H.get b with
   | some (.map es _)=>some (goInt es.length)
   | _=>none
  | .map none=>some (goInt 0)
  | _=>none
 | some .string=>match x with
  | .string s=>some (goInt s.size)
  | _=>none
 | _=>none
theorem zri (h:zH w0 G L H w) {t u:TypeId} {v x r:Value} (hr:zwO P H t v = some r) (hx:VR L v x):(Builtin.len_ #[t] u #[x]).run P w = .ok r w/\flat r = true:=by
 unfold zwO at hr
 split at hr
 ·rename_i n e hu
  cases hr
  exact ⟨by simp [Builtin.len_,run_underlying hu],rfl⟩
 ·rename_i e hu
  split at hr
  ·rename_i n e2 hu2
   cases hr
   exact ⟨by simp [Builtin.len_,run_underlying hu,run_underlying hu2],rfl⟩
  ·cases hr
 ·rename_i e hu
  split at hr
  ·rename_i b n c
   cases hr
   cases hx <;> exact ⟨by simp [Builtin.len_,run_underlying hu],rfl⟩
  ·cases hr
 ·rename_i k e hu
  split at hr
  ·rename_i b
   split at hr
   ·rename_i es clock hb
    cases hr
    cases hx with
    | map hp =>
     rename_i p
     obtain ⟨es',h1,h2⟩:=h.obj b _ p hb hp
     have:es'.size = es.length:=by have:=h2.1; simpa using this.symm
     exact ⟨by simp [Builtin.len_,run_underlying hu,yz h1 rfl,this],rfl⟩
   ·cases hr
  ·cases hr
   cases hx
   exact ⟨by simp [Builtin.len_,run_underlying hu],rfl⟩
  ·cases hr
 ·rename_i hu
  split at hr
  ·cases hr
   cases hx
   exact ⟨by simp [Builtin.len_,run_underlying hu],rfl⟩
  ·cases hr
 ·cases hr
def zwP (P:Program) (t:TypeId) (x:Value):Option Value :=
 match P.underlying t with
 | some (.slice _)=>match x with
  | .slice (some ⟨_,_,none⟩) _ c=>cond (ZX c) none (some (goInt (c / 2:Nat)))
  | .slice none 0 0=>some (goInt 0)
  | _=>none
 | some (.array n _)=>some (goInt n)
 | _=>none
theorem zrj {t u:TypeId} {v x r:Value} (hr:zwP P t v = some r) (hx:VR L v x) (w:World):(Builtin.cap_ #[t] u #[x]).run P w = .ok r w/\flat r = true:=by
 unfold zwP at hr
 split at hr
 ·rename_i e hu
  split at hr
  ·rename_i b o n c
   cases hc:ZX c with
   | true=>rw [hc] at hr; cases hr
   | false =>
    rw [hc] at hr; cases hr
    cases hx with
    | slice hp=>exact ⟨by simp [Builtin.cap_,run_underlying hu,YQ hc],rfl⟩
  ·cases hr
   cases hx
   exact ⟨by simp [Builtin.cap_,run_underlying hu],rfl⟩
  ·cases hr
 ·rename_i n e hu
  cases hr
  exact ⟨by simp [Builtin.cap_,run_underlying hu],rfl⟩
 ·cases hr
end
end Go.Run
noncomputable section
namespace Go.Run
open Go.RowKit
section
variable {P:Program} {w0:World} {G:Nat} {L:Lam} {H:AH} {w:World}
def zya (P:Program) (t:TypeId):Option TypeId:=match P.underlying t with
 | some (.pointer e)=>some e
 | _=>none
def eqA (P:Program) (t:TypeId) (x y:Value):Option Bool :=
 match P.underlying t,x,y with
 | some (.pointer _),.pointer (some ⟨_,_,none⟩),.pointer none=>some false
 | some (.pointer _),.pointer none,.pointer (some ⟨_,_,none⟩)=>some false
 | some (.pointer e),.pointer (some ⟨b,o,none⟩),.pointer (some ⟨b',o',none⟩)=>match sizeT P e with
  | some (_ + 1)=>cond (Nat.beq b b') (some (Nat.beq o o')) none
  | _=>none
 | some (.slice _),.slice (some _) _ _,.slice none 0 0=>some false
 | some (.slice _),.slice none 0 0,.slice (some _) _ _=>some false
 | some (.map _ _),.map (some _),.map none=>some false
 | some (.map _ _),.map none,.map (some _)=>some false
 | some (.func _ _ _),.func _ _ _,.nilFunc=>some false
 | some (.func _ _ _),.nilFunc,.func _ _ _=>some false
 | some (.interface _),.iface _ _,.nilIface=>some false
 | some (.interface _),.nilIface,.iface _ _=>some false
 | _,_,_=>none
def zeF:Value->Value->Bool
 | .nilIface,.nilIface=>false
 | .agg _,.agg _=>false
 | _,_=>true
theorem ziG {op:BinOp} {t:TypeId} {ox oy:Operand} {x y:Value} (h:zeF x y = true):(eqGuard op t ox oy x y).run P w = .ok () w:=by
 have key:∀ (c:Bool) (s:Sem Unit),s.run P w = .ok () w->(if c = true then pure () else s).run P w = .ok () w:=by
  intro c s hs
  cases c
  ·exact hs
  ·simp
 unfold eqGuard
 refine key _ _ ?_
 unfold zeF at h
 split at h
 ·cases h
 ·cases h
 ·rename_i h1 h2
  split
  ·exact (h1 rfl rfl).elim
  ·exact (h2 _ _ rfl rfl).elim
  ·simp
theorem zci {t:TypeId} {x y:Value} {b:Bool} {ox oy:Operand} (h:∀ d,(Op.equalIn (d + 1) t x y).run P w = .ok b w) (hb1:binOp .eql t x y = (do pure (.bool (<- Op.equal t x y)):Sem Value)) (hb2:binOp .neq t x y = (do pure (.bool (!(<- Op.equal t x y))):Sem Value))
  (hg:zeF x y = true) :
  (do eqGuard .eql t ox oy x y; binOp .eql t x y:Sem Value).run P w = .ok (.bool b) w/\(do eqGuard .neq t ox oy x y; binOp .neq t x y:Sem Value).run P w = .ok (.bool !b) w:=by
 have h':(Op.equal t x y).run P w = .ok b w:=h 9999
 rw [hb1,hb2]
 simp only [Sem.run_bind,ziG hg,Result.andThen_ok,h',Sem.run_pure,and_self]
theorem zmQ {t:TypeId} {v u x y:Value} {b:Bool} (hr:eqA P t v u = some b) (hx:VR L v x) (hy:VR L u y) (w:World) (ox oy:Operand) :
  (do eqGuard .eql t ox oy x y; binOp .eql t x y:Sem Value).run P w = .ok (.bool b) w/\(do eqGuard .neq t ox oy x y; binOp .neq t x y:Sem Value).run P w = .ok (.bool !b) w:=by
 unfold eqA at hr
 split at hr
 ·rename_i e _ _ hu; cases hr; cases hx; cases hy
  exact zci (fun d=>by simp [Op.equalIn,run_underlying hu]) rfl rfl rfl
 ·rename_i e _ _ hu; cases hr; cases hx; cases hy
  exact zci (fun d=>by simp [Op.equalIn,run_underlying hu]) rfl rfl rfl
 ·rename_i e b1 o1 b2 o2 hu
  split at hr
  ·rename_i n hs
   by_cases q:b1 = b2
   ·subst q
    simp only [Nat.beq_refl,cond_true,zyO] at hr
    cases hx with
    | ptr hp =>
     rename_i p
     cases hy with
     | ptr hp' =>
      rename_i p'
      rw [hp] at hp'; cases hp'
      have he:((⟨p.b,p.base + o1,none⟩:Addr) == ⟨p.b,p.base + o2,none⟩) = b:=by
       rw [<- hr]
       by_cases q:o1 = o2
       ·subst q; simp
       ·rw [beqF q]
        simp
      exact zci (fun d=>by simp [Op.equalIn,run_underlying hu,run_sizeOf hs,sameAddr,he]) rfl rfl rfl
   ·rw [beqF q] at hr; cases hr
  ·cases hr
 all_goals first
  | (rename_i hu; cases hr; cases hx <;> cases hy <;> exact zci (fun d=>by simp [Op.equalIn,run_underlying hu]) rfl rfl rfl)
  | cases hr
def zkL (P:Program) (x:Value) (asserted:TypeId) (ok:Bool):Option Value :=
 match P.underlying asserted,x with
 | some (.interface want),.iface t _=>match P.info? t with
  | some ti=>match Instr.missingMethod want ti.methods with
   | none=>some (if ok then .tuple #[x,.bool true] else x)
   | some _=>if ok then (match zeroT P asserted with | some z=>some (.tuple #[z,.bool false]) | none=>none) else none
  | none=>none
 | some _,.nilIface=>if ok then (match zeroT P asserted with | some z=>some (.tuple #[z,.bool false]) | none=>none) else none
 | some _,.iface t v=>cond (Nat.beq t asserted) (some (if ok then .tuple #[v,.bool true] else v)) (if ok then (match zeroT P asserted with | some z=>some (.tuple #[z,.bool false]) | none=>none) else none)
 | _,_=>none
theorem VR.pair {v x v' x':Value} (h:VR L v x) (k:VR L v' x'):VR L (.tuple #[v,v']) (.tuple #[x,x']):=by
 have:=((LR.nil L).cons k).cons h
 exact .tuple this.toArray.1 this.toArray.2
theorem zkM {x y:Value} {xT asserted:TypeId} {ok:Bool} {r:Value} (hr:zkL P x asserted ok = some r) (hx:VR L x y) (w:World):∃ z,(Instr.typeAssert y xT asserted ok).run P w = .ok z w/\VR L r z:=by
 unfold zkL at hr
 split at hr
 ·rename_i want t v hu
  cases hx with
  | iface hv =>
   rename_i u
   split at hr
   ·rename_i ti hti
    split at hr
    ·rename_i hm
     cases hr
     cases ok
     ·exact ⟨.iface t u,by simp [Instr.typeAssert,run_underlying hu,typeInfo,hti,hm],.iface hv⟩
     ·exact ⟨.tuple #[.iface t u,.bool true],by simp [Instr.typeAssert,run_underlying hu,typeInfo,hti,hm],(VR.iface hv).pair (.bool _)⟩
    ·rename_i m hm
     cases ok
     ·simp at hr
     ·simp only [if_true] at hr
      split at hr
      ·rename_i z hz
       cases hr
       obtain ⟨z1,z2⟩:=zeroT_spec hz
       exact ⟨.tuple #[z,.bool false],by simp [Instr.typeAssert,run_underlying hu,typeInfo,hti,hm,z1],(VR.refl_flat z2).pair (.bool _)⟩
      ·cases hr
   ·cases hr
 ·rename_i d hu
  cases hx
  cases ok
  ·simp at hr
  ·simp only [if_true] at hr
   split at hr
   ·rename_i z hz
    cases hr
    obtain ⟨z1,z2⟩:=zeroT_spec hz
    refine ⟨.tuple #[z,.bool false],?_,(VR.refl_flat z2).pair (.bool _)⟩
    cases d <;> simp [Instr.typeAssert,run_underlying hu,z1]
   ·cases hr
 ·rename_i d t v hn hu
  cases hx with
  | iface hv =>
   rename_i u
   by_cases q:t = asserted
   ·subst q
    simp only [Nat.beq_refl,cond_true] at hr
    cases hr
    cases ok
    ·refine ⟨u,?_,hv⟩
     cases d <;> first | (exact (hn _ rfl).elim) | simp [Instr.typeAssert,run_underlying hu]
    ·refine ⟨.tuple #[u,.bool true],?_,hv.pair (.bool _)⟩
     cases d <;> first | (exact (hn _ rfl).elim) | simp [Instr.typeAssert,run_underlying hu]
   ·rw [beqF q] at hr
    simp only [cond_false] at hr
    cases ok
    ·simp at hr
    ·simp only [if_true] at hr
     split at hr
     ·rename_i z hz
      cases hr
      obtain ⟨z1,z2⟩:=zeroT_spec hz
      refine ⟨.tuple #[z,.bool false],?_,(VR.refl_flat z2).pair (.bool _)⟩
      cases d <;> first | (exact (hn _ rfl).elim) | simp [Instr.typeAssert,run_underlying hu,z1,q]
     ·cases hr
 ·cases hr
def bytesOf:List Value->Option (List UInt8)
 | []=>some []
 | .int .u8 n :: l=>match n,bytesOf l with
  | .ofNat k,some s=>cond (Nat.blt k 256) (some (UInt8.ofNat k :: s)) none
  | _,_=>none
 | _=>none
theorem zaV:∀ {l:List Value} {s:List UInt8},bytesOf l = some s->l = s.map fun b=>Value.int .u8 (b.toNat:Int)
 | [],s,h=>by simp only [bytesOf,zyO] at h; subst h; rfl
 | .int .u8 n :: l,s,h=>by
  simp only [bytesOf] at h
  split at h
  ·rename_i k s' hs
   cases hk:Nat.blt k 256 with
   | false=>rw [hk] at h; cases h
   | true =>
    rw [hk] at h; cases h
    have hk:k < 256:=by simpa using hk
    rw [zaV hs]
    simp [Nat.mod_eq_of_lt hk]
  ·cases h
 | .int .i8 _ :: _,_,h | .int .i16 _ :: _,_,h | .int .i32 _ :: _,_,h | .int .i64 _ :: _,_,h | .int .u16 _ :: _,_,h | .int .u32 _ :: _,_,h | .int .u64 _ :: _,_,h=>by simp [bytesOf] at h
 | .bool _ :: _,_,h | .float _ _ :: _,_,h | .complex _ _ _ :: _,_,h | .string _ :: _,_,h | .pointer _ :: _,_,h | .slice _ _ _ :: _,_,h | .map _ :: _,_,h | .chan _ :: _,_,h
 | .func _ _ _ :: _,_,h | .nilFunc :: _,_,h | .iface _ _ :: _,_,h | .nilIface :: _,_,h | .agg _ :: _,_,h | .tuple _ :: _,_,h=>by simp [bytesOf] at h
def zcj (P:Program) (t:TypeId):Bool:=match P.underlying t with
 | some (.slice e)=>match P.underlying e with
  | some (.int .u8)=>true
  | _=>false
 | _=>false
def zmR (P:Program) (t:TypeId):Bool:=match P.underlying t with
 | some .string=>true
 | _=>false
theorem zaW {t:TypeId} (h:zcj P t = true):∃ e,P.underlying t = some (.slice e)/\P.underlying e = some (.int .u8):=by
 unfold zcj at h
 split at h
 ·rename_i e hu
  split at h
  ·rename_i he; exact ⟨e,hu,he⟩
  ·cases h
 ·cases h
theorem zhh {t:TypeId} (h:zmR P t = true):P.underlying t = some .string:=by
 unfold zmR at h
 split at h
 ·assumption
 ·cases h
def zoP (P:Program) (H:AH) (s d:TypeId) (x:Value):Option Value :=
 cond (zcj P s && zmR P d) (match x with
  | .slice (some ⟨b,o,none⟩) len _=>match zaT H b o len with
   | some vs=>match bytesOf vs with
    | some l=>some (.string ⟨l.toArray⟩)
    | none=>none
   | none=>none
  | _=>none) none
theorem zmS (h:zH w0 G L H w) {s d:TypeId} {v x r:Value} (hr:zoP P H s d v = some r) (hx:VR L v x):(convert s d x).run P w = .ok r w/\flat r = true:=by
 unfold zoP at hr
 cases hc:(zcj P s && zmR P d) with
 | false=>rw [hc] at hr; cases hr
 | true =>
  rw [hc] at hr
  simp only [cond_true] at hr
  simp only [zyL] at hc
  obtain ⟨e,hu,he⟩:=zaW hc.1
  have hd:=zhh hc.2
  split at hr
  ·rename_i b o len cap
   split at hr
   ·rename_i vs hcl
    split at hr
    ·rename_i l hl
     cases hr
     cases hx with
     | slice hp =>
      rename_i p
      obtain ⟨xs,q1,q2,q3⟩:=ZF h hcl hp
      have hvs:=zaV hl
      have hfl:vs.all flat = true:=by rw [hvs]; simp [flat,yD]
      have hxs:xs = vs:=q1.eq_flat hfl
      have hload:(loadCells ⟨p.b,p.base + o,none⟩ len).run P w = .ok ((l.map fun b=>(b.toNat:Int)).map (Value.int .u8)).toArray w:=by
       have:=run_loadCells_list (P:=P) w ⟨p.b,p.base + o,none⟩ xs (fun j v hv=>by rw [Addr.add_none]; exact (q3 j v hv).1)
       rw [q2] at this
       rw [this,hxs,hvs]
       simp [List.map_map,Function.comp_def]
      refine ⟨?_,rfl⟩
      rw [run_convert_bytes_string w s d e _ _ _ hu he hd,run_bytesToString w _ _ _ _ hload,foldl_push_byteCells]
      simp [ByteArray.empty,ByteArray.emptyWithCapacity]
      rfl
    ·cases hr
   ·cases hr
  ·cases hr
end
end Go.Run
noncomputable section
namespace Go.Run
open Go.RowKit
section
variable {P:Program} {w0:World} {G:Nat} {L:Lam} {H:AH} {w:World}
theorem Qh {α β:Type} (s:Sem α) (f:α->Sem β):yu P (s >>= f) = (yu P s).bind fun a=>yu P (f a):=by
 show yu P (Sem.bind s f) = _
 induction s with
 | pure a=>rfl
 | program k ih=>simp only [Sem.bind,yu]; exact ih P
 | mark m k ih=>simp only [Sem.bind,yu]; exact ih
 | _=>rfl
theorem zaX {α:Type} (a:α):yu P (pure a:Sem α) = some a:=rfl
def KE:List MapEntry->List MapEntry->Prop
 | [],[]=>True
 | e :: es,e' :: es'=>e.key = e'.key/\KE es es'
 | _,_=>False
def FO (es':List MapEntry) (i:Nat):Option (Nat × Value)->Option (Nat × Value)->Prop
 | none,r=>r = none
 | some (j,_),r=>i <= j/\∃ e,es'[j - i]? = some e/\r = some (j,e.val)
theorem FO.succ {e:MapEntry} {es':List MapEntry} {i:Nat} {r r':Option (Nat × Value)} (h:FO es' (i + 1) r r'):FO (e :: es') i r r':=by
 cases r with
 | none=>exact h
 | some x =>
  obtain ⟨j,v⟩:=x
  obtain ⟨h1,e',h2,h3⟩:=h
  refine ⟨by omega,e',?_,h3⟩
  rw [show j - i = (j - (i + 1)) + 1 from by omega]
  simpa using h2
theorem zdM (kind:TypeDesc) (k:Value):∀ (es es':List MapEntry) (i:Nat),KE es es'->(Instr.findNow kind k es i = none->Instr.findNow kind k es' i = none)/\∀ r,Instr.findNow kind k es i = some r->∃ r',Instr.findNow kind k es' i = some r'/\FO es' i r r'
 | [],[],i,_=>⟨fun h=>by simp [Instr.findNow] at h,fun r h=>by simp only [Instr.findNow,zyO] at h; subst h; exact ⟨none,rfl,rfl⟩⟩
 | [],_ :: _,_,h=>h.elim
 | _ :: _,[],_,h=>h.elim
 | e :: es,e' :: es',i,h=>by
  obtain ⟨i1,i2⟩:=zdM kind k es es' (i + 1) h.2
  have hk:=h.1
  simp only [Instr.findNow,<- hk]
  cases hs:Instr.sameNow kind k e.key with
  | none=>exact ⟨fun _=>rfl,fun r h=>by cases h⟩
  | some b =>
   cases b with
   | true=>exact ⟨fun h=>(by cases h),fun r h=>(by cases h; exact ⟨_,rfl,zyF _,e',by simp,rfl⟩)⟩
   | false =>
    refine ⟨i1,fun r hr=>?_⟩
    obtain ⟨r',q1,q2⟩:=i2 r hr
    exact ⟨r',q1,q2.succ⟩
theorem zbt (kt:TypeId) (k:Value):∀ (es es':List MapEntry) (i:Nat) (r:Option (Nat × Value)),KE es es'->yu P (Instr.findAsking kt k es i) = some r->∃ r',(∀ w,(Instr.findAsking kt k es' i).run P w = .ok r' w)/\FO es' i r r'
 | [],[],i,r,_,h=>by
  simp only [Instr.findAsking,zaX,zyO] at h; subst h
  exact ⟨none,fun w=>by simp [Instr.findAsking],rfl⟩
 | [],_ :: _,_,_,h,_=>h.elim
 | _ :: _,[],_,_,h,_=>h.elim
 | e :: es,e' :: es',i,r,h,hr=>by
  simp only [Instr.findAsking,Qh] at hr
  cases hb:yu P (Op.equal kt k e.key) with
  | none=>rw [hb] at hr; simp at hr
  | some b =>
   rw [hb] at hr
   simp only [Option.bind_some] at hr
   have hrun:∀ w,(Op.equal kt k e'.key).run P w = .ok b w:=fun w=>by rw [<- h.1]; exact qd _ hb w
   cases b with
   | true =>
    simp only [if_true,zaX,zyO] at hr; subst hr
    exact ⟨some (i,e'.val),fun w=>by simp [Instr.findAsking,hrun],zyF _,e',by simp,rfl⟩
   | false =>
    simp only [Bool.false_eq_true,if_false] at hr
    obtain ⟨r',q1,q2⟩:=zbt kt k es es' (i + 1) r h.2 hr
    exact ⟨r',fun w=>by simp [Instr.findAsking,hrun,q1],q2.succ⟩
def zdN (es:List MapEntry):List MapEntry:=es.map fun e=>{ key:=e.key,val:=.bool true,born:=e.born }
def zcD (P:Program) (kt:TypeId) (k:Value) (es:List MapEntry):Option (Option Nat) :=
 cond (flat k && es.all (fun e=>flat e.key)) (match yu P (Instr.checkKey es.isEmpty 10000 kt k),yu P (Instr.findKey kt k (zdN es)) with
  | some _,some r=>some (r.map (·.1))
  | _,_=>none) none
theorem zxJ {es es':List MapEntry} (h:MR L es es') (hf:es.all (fun e=>flat e.key) = true):KE (zdN es) es':=by
 induction es generalizing es' with
 | nil =>
  have:es' = []:=zyR (by simpa using h.1.symm)
  subst this; trivial
 | cons e es ih =>
  cases es' with
  | nil=>have:=h.1; simp at this
  | cons e' es' =>
   simp only [List.all_cons,zyL] at hf
   refine ⟨?_,ih ⟨by have:=h.1; simpa using this,fun i a b h1 h2=>h.2 (i + 1) a b (by simpa using h1) (by simpa using h2)⟩ hf.2⟩
   exact ((h.2 0 e e' (by simp) (by simp)).key.eq_flat hf.1).symm
theorem ZG {kt:TypeId} {k k':Value} {es es':List MapEntry} {r:Option Nat} (hr:zcD P kt k es = some r) (hk:VR L k k') (hm:MR L es es') (w:World):k' = k/\(Instr.checkKey es'.isEmpty 10000 kt k).run P w = .ok () w /\
  match r with
  | none=>(Instr.findKey kt k es').run P w = .ok none w
  | some j=>∃ e e',es[j]? = some e/\es'[j]? = some e'/\ER L e e'/\(Instr.findKey kt k es').run P w = .ok (some (j,e'.val)) w:=by
 unfold zcD at hr
 cases hc:(flat k && es.all (fun e=>flat e.key)) with
 | false=>rw [hc] at hr; cases hr
 | true =>
  rw [hc] at hr
  simp only [cond_true] at hr
  simp only [zyL] at hc
  have hkk:=hk.eq_flat hc.1
  split at hr
  ·rename_i u r0 h1 h2
   cases hr
   have hemp:es'.isEmpty = es.isEmpty:=by
    have:=hm.1
    cases es <;> cases es' <;> simp_all
   refine ⟨hkk,by rw [hemp]; exact qd _ h1 w,?_⟩
   have ke:=zxJ hm hc.2
   have key:∃ r',(Instr.findKey kt k es').run P w = .ok r' w/\FO es' 0 r0 r':=by
    simp only [Instr.findKey,Qh] at h2
    cases hu:P.underlying kt with
    | none =>
     exfalso
     simp [underlying,program,Qh,yu,hu,stuck] at h2
    | some d =>
     have hun:yu P (underlying kt) = some d:=by
      simp [underlying,program,Qh,yu,hu]
      rfl
     rw [hun] at h2
     simp only [Option.bind_some] at h2
     obtain ⟨n1,n2⟩:=zdM d k (zdN es) es' 0 ke
     cases hn:Instr.findNow d k (zdN es) 0 with
     | some q =>
      rw [hn] at h2
      simp only [zaX,zyO] at h2; subst h2
      obtain ⟨r',q1,q2⟩:=n2 q hn
      exact ⟨r',by simp [Instr.findKey,run_underlying hu,q1],q2⟩
     | none =>
      rw [hn] at h2
      simp only at h2
      obtain ⟨r',q1,q2⟩:=zbt kt k _ es' 0 r0 ke h2
      exact ⟨r',by simp [Instr.findKey,run_underlying hu,n1 hn,q1],q2⟩
   obtain ⟨r',q1,q2⟩:=key
   cases r0 with
   | none=>have:r' = none:=q2; subst this; exact q1
   | some x =>
    obtain ⟨j,v⟩:=x
    obtain ⟨_,e',h3,h4⟩:=q2
    simp only [Nat.sub_zero] at h3
    have hlt:j < es.length:=by rw [hm.1]; exact (List.getElem?_eq_some_iff.1 h3).1
    exact ⟨es[j],e',zys hlt,h3,hm.2 j _ _ (zys hlt) h3,by rw [q1,h4]⟩
  ·cases hr
def mapT (P:Program) (t:TypeId):Option (TypeId × TypeId):=match P.underlying t with
 | some (.map k e)=>some (k,e)
 | _=>none
theorem mapT_spec {t k e:TypeId} (h:mapT P t = some (k,e)):P.underlying t = some (.map k e):=by
 unfold mapT at h
 split at h
 ·rename_i hu; cases h; exact hu
 ·cases h
def zkN (P:Program) (H:AH) (t:TypeId) (m k:Value) (ok:Bool):Option Value :=
 match mapT P t with
 | none=>none
 | some (kt,et)=>match (match m with | .map none=>some [] | .map (some b)=>(match H.get b with | some (.map es _)=>some es | _=>none) | _=>none) with
  | none=>none
  | some es=>match zcD P kt k es,zeroT P et with
   | some (some j),_=>match es[j]? with
    | some e=>some (if ok then .tuple #[e.val,.bool true] else e.val)
    | none=>none
   | some none,some z=>some (if ok then .tuple #[z,.bool false] else z)
   | _,_=>none
def Z9 (kt et:TypeId) (es:Array MapEntry) (k:Value) (ok:Bool):Sem Value:=do
 Instr.checkKey es.isEmpty 10000 kt k
 let (v,there) <- match <- Instr.findKey kt k es.toList with
  | some (_,v)=>pure (v,true)
  | none=>pure (<- zeroValue et,false)
 pure (if ok then .tuple #[v,.bool there] else v)
theorem zkO (h:zH w0 G L H w) {t:TypeId} {m k m' k' r:Value} {ok:Bool} (hr:zkN P H t m k ok = some r) (hm:VR L m m') (hk:VR L k k'):∃ y,(Instr.lookup t m' k' ok).run P w = .ok y w/\VR L r y:=by
 unfold zkN at hr
 split at hr
 ·cases hr
 ·rename_i kt et ht
  have hu:=mapT_spec ht
  have key:∀ (es:List MapEntry) (es':Array MapEntry),MR L es es'.toList->(match zcD P kt k es,zeroT P et with
   | some (some j),_=>match es[j]? with
    | some e=>some (if ok then Value.tuple #[e.val,.bool true] else e.val)
    | none=>none
   | some none,some z=>some (if ok then .tuple #[z,.bool false] else z)
   | _,_=>none) = some r->∃ y,(Z9 kt et es' k' ok).run P w = .ok y w/\VR L r y:=by
   intro es es' hmr hq
   split at hq
   ·rename_i j hf
    obtain ⟨rfl,c1,e,e',h1,h2,h3,h4⟩:=ZG hf hk hmr w
    rw [Array.isEmpty_toList] at c1
    rw [h1] at hq
    simp only [zyO] at hq; subst hq
    cases ok
    ·exact ⟨e'.val,by simp [Z9,c1,h4],h3.val⟩
    ·exact ⟨.tuple #[e'.val,.bool true],by simp [Z9,c1,h4],h3.val.pair (.bool _)⟩
   ·rename_i z hf hz
    obtain ⟨rfl,c1,h4⟩:=ZG hf hk hmr w
    rw [Array.isEmpty_toList] at c1
    obtain ⟨z1,z2⟩:=zeroT_spec hz
    simp only [zyO] at hq; subst hq
    cases ok
    ·exact ⟨z,by simp [Z9,c1,h4,z1],VR.refl_flat z2⟩
    ·exact ⟨.tuple #[z,.bool false],by simp [Z9,c1,h4,z1],(VR.refl_flat z2).pair (.bool _)⟩
   ·cases hq
  split at hr
  ·cases hr
  ·rename_i es hes
   split at hes
   ·cases hes
    cases hm
    obtain ⟨y,q1,q2⟩:=key [] #[] ⟨rfl,fun i a b h1=>by simp at h1⟩ hr
    exact ⟨y,by rw [<- q1]; simp [Instr.lookup,Z9,run_underlying hu]; rfl,q2⟩
   ·rename_i b
    split at hes
    ·rename_i es0 clock hb
     cases hes
     cases hm with
     | map hp =>
      rename_i p
      obtain ⟨es',h1,h2⟩:=h.obj b _ p hb hp
      obtain ⟨y,q1,q2⟩:=key es es' h2 hr
      exact ⟨y,by rw [<- q1]; simp [Instr.lookup,Z9,run_underlying hu,yz h1 rfl]; rfl,q2⟩
    ·cases hes
   ·cases hes
theorem ccU {α:Type} {c:Bool} {q:Option α} {r:α} (h:(bif c then q else none) = some r):c = true/\q = some r:=by
 cases c
 ·cases h
 ·exact ⟨rfl,h⟩
def zth (P:Program) (H:AH) (s d:TypeId) (x:Value):Option Value :=
 match x with
 | .pointer (some ⟨b,o,none⟩)=>match P.underlying s,P.underlying d,H.get b with
  | some (.pointer t),some .unsafePointer,some (.cells n _ _ none _)=>(match P.info? t with
   | some j=>cond (!Nat.beq j.size 0 && Nat.blt o n) (some x) none
   | none=>none)
  | some .unsafePointer,some (.pointer u),some (.cells n _ ty none _)=>(match P.info? u with
   | some _=>cond (liesAt P P.depth ty (n / P.cellsOf ty) o u 1) (some x) none
   | none=>none)
  | _,_,_=>none
 | _=>none
def zvY (P:Program) (H:AH) (s d:TypeId) (x:Value):Option Value :=
 cond (flat x) (match yu P (convert s d x) with
  | some v=>cond (flat v) (some v) none
  | none=>none) (match zoP P H s d x with
   | some v=>some v
   | none=>zth P H s d x)
def zxK (P:Program) (op:BinOp) (t:TypeId) (ox oy:Operand) (x y:Value):Option Value :=
 cond (flat x && flat y) (match yu P (do eqGuard op t ox oy x y; binOp op t x y) with
  | some v=>cond (flat v) (some v) none
  | none=>none) (match op with
  | .eql=>(match eqA P t x y with | some b=>some (.bool b) | none=>none)
  | .neq=>(match eqA P t x y with | some b=>some (.bool !b) | none=>none)
  | _=>none)
def zoQ:Value->Option Value
 | .slice none _ _=>some (.pointer none)
 | .slice (some ⟨b,o,none⟩) _ c=>cond (Nat.blt 1 c) (some (.pointer (some ⟨b,o,none⟩))) none
 | _=>none
theorem zmT {x x' v:Value} (hv:zoQ x = some v) (hx:VR L x x') (ts:Array TypeId) (ty:TypeId) (w:World):∃ y,(Builtin.unsafeSliceData_ ts ty #[x']).run P w = .ok y w/\VR L v y:=by
 unfold zoQ at hv
 split at hv
 ·cases hv
  cases hx with
  | nils=>exact ⟨_,Lib.run_unsafeSliceData_nil w ts ty _ _,.nilp⟩
 ·rename_i b o n c
  obtain ⟨c0,hv⟩:=ccU hv
  cases hv
  cases hx with
  | slice hp =>
   rename_i p
   have hc:1 < c:=by simpa using c0
   refine ⟨_,Lib.run_unsafeSliceData_row w ts ty _ _ _ ?_,.ptr hp⟩
   cases ho:ZX c with
   | true=>rw [zay ho]; omega
   | false=>rw [YQ ho]; omega
 ·cases hv
def zmU (P:Program) (H:AH) (b:Builtin) (tys:Array TypeId) (ty:TypeId) (args:List Value):Option Value :=
 match b,tys.toList,args with
 | .len,[t],[x]=>zwO P H t x
 | .cap,[t],[x]=>zwP P t x
 | .unsafeSliceData,_,[x]=>zoQ x
 | .max,_,_ | .min,_,_=>cond (args.all flat) (match yu P (builtin b tys ty #[] args.toArray) with
  | some (.value v)=>cond (flat v) (some v) none
  | _=>none) none
 | _,_,_=>none
def Zt (ρ:Ev):Option Operand->Option Value
 | some x=>some (ρ x)
 | none=>none
def zhi:Option Value->Bool
 | some v=>flat v
 | none=>true
theorem OR.eq_flat {v x:Option Value} (h:OR L v x) (hf:zhi v = true):x = v:=by
 cases v with
 | none=>cases x with
  | none=>rfl
  | some _=>exact h.elim
 | some v=>cases x with
  | none=>exact h.elim
  | some x=>rw [VR.eq_flat hf h]
theorem zoR (h:zH w0 G L H w) {s d:TypeId} {x r x':Value} (hr:zth P H s d x = some r) (hx:VR L x x'):∃ y,(convert s d x').run P w = .ok y w/\VR L r y:=by
 unfold zth at hr
 split at hr
 ·rename_i b o
  cases hx with
  | ptr hp =>
   rename_i p
   split at hr
   ·rename_i t n tr ty fz hs hd hb
    obtain ⟨cur,fr,h1,_,⟨h2,h3⟩,_⟩:=h.obj b _ p hb hp
    have hsh:w.shape? p.b = some (ty,n):=by simp [World.shape?,h1,h3]
    split at hr
    ·rename_i j hj
     have c0:=(ccU hr).1
     replace hr:=(ccU hr).2
     cases hr
     simp only [zyL,Bool.not_eq_true'] at c0
     refine ⟨_,Lib.run_to_unsafe w ⟨p.b,p.base + o,none⟩ hs hd hj (fun q=>?_) hsh ?_,.ptr hp⟩
     ·rw [q] at c0; simp at c0
     ·rw [h2,Nat.zero_add]; simpa using c0.2
    ·cases hr
   ·rename_i u n tr ty fz hs hd hb
    obtain ⟨cur,fr,h1,_,⟨h2,h3⟩,_⟩:=h.obj b _ p hb hp
    have hsh:w.shape? p.b = some (ty,n):=by simp [World.shape?,h1,h3]
    split at hr
    ·rename_i j hj
     have c0:=(ccU hr).1
     replace hr:=(ccU hr).2
     cases hr
     refine ⟨_,Lib.run_from_unsafe w ⟨p.b,p.base + o,none⟩ hs hd hj hsh ?_,.ptr hp⟩
     rw [h2,Nat.zero_add]; exact c0
    ·cases hr
   ·cases hr
 ·cases hr
def zdO (P:Program) (H:AH) (ρ:Ev) (o:Oper):Option Value :=
 match o.op with
 | .move x | .assign x=>some (ρ x)
 | .pick c a b=>match ρ c with
  | .bool t=>some (if t then ρ a else ρ b)
  | _=>none
 | .load t a=>zmL P H t (ρ a)
 | .nilCheck x=>match ρ x with
  | .pointer (some ⟨b,f,none⟩)=>some (.pointer (some ⟨b,f,none⟩))
  | .func (.func f) a b=>some (.func (.func f) a b)
  | .iface t v=>some (.iface t v)
  | _=>none
 | .binOp op t x y _=>zxK P op t x y (ρ x) (ρ y)
 | .unOp op _ x=>cond (flat (ρ x)) (match yu P (Op.unary op (ρ x)) with
  | some v=>cond (flat v) (some v) none
  | none=>none) none
 | .convert s d x=>zvY P H s d (ρ x)
 | .makeInterface t x=>match P.underlying t with
  | some (.interface _)=>none
  | some _=>some (.iface t (ρ x))
  | none=>none
 | .makeFunc f a b=>cond (zeE f) (some (.func f (a.toList.map ρ).toArray (b.toList.map ρ).toArray)) none
 | .slice t x lo hi mx=>match ρ x with
  | .string s=>cond (zhi (Zt ρ lo) && zhi (Zt ρ hi) && zhi (Zt ρ mx)) (match yu P (Instr.sliceAt t (.string s) (Zt ρ lo) (Zt ρ hi) (Zt ρ mx)) with
   | some (.string r)=>some (.string r)
   | _=>none) none
  | v=>zoN P t v (Zt ρ lo) (Zt ρ hi) (Zt ρ mx)
 | .fieldAddr s x f=>zcP P s (ρ x) f
 | .field t x f=>zoL P t (ρ x) f
 | .indexAddr t x i=>zcQ P t (ρ x) (ρ i)
 | .index t x i=>match ρ x with
  | .string s=>cond (flat (ρ i)) (match yu P (Instr.index t (.string s) (ρ i)) with
   | some (.int k n)=>some (.int k n)
   | _=>none) none
  | v=>zoM P t v (ρ i)
 | .lookup t m k ok=>zkN P H t (ρ m) (ρ k) ok
 | .typeAssert x _ a ok=>zkL P (ρ x) a ok
 | .extract x i=>match ρ x with
  | .tuple vs=>vs.toList[i]?
  | _=>none
 | .build t ps=>buildA P t (ps.toList.map fun x=>(x.1,ρ x.2))
 | .call { callee:=.builtin b,args,argTypes }=>zmU P H b argTypes o.type (args.toList.map ρ)
 | _=>none
theorem zaY {ρ ρ':Ev}:∀ (l:List Operand),(∀ x ∈ l,VR L (ρ x) (ρ' x))->LR L (l.map ρ) (l.map ρ')
 | [],_=>LR.nil L
 | x :: l,h=>(zaY l fun y hy=>h y (by simp [hy])).cons (h x (by simp))
theorem zoS {ρ ρ':Ev} {x:Option Operand} (h:∀ y,x = some y->VR L (ρ y) (ρ' y)):OR L (Zt ρ x) (x.map ρ'):=by
 cases x with
 | none=>trivial
 | some y=>exact h y rfl
theorem zhj (h:zH w0 G L H w) {ρ ρ':Ev} {o:Oper} {v:Value} (hv:zdO P H ρ o = some v) (hop:∀ x ∈ o.op.operands,VR L (ρ x) (ρ' x)) :
  ∃ x,(execOp ρ' o).run P w = .ok (.value x) w/\VR L v x:=by
 unfold zdO at hv
 have fl:∀ {q:Option Value} {u:Value},(match q with | some v=>cond (flat v) (some v) none | none=>none) = some u->q = some u/\flat u = true:=by
  intro q u hq
  cases q with
  | none=>cases hq
  | some z =>
   simp only at hq
   cases hf:flat z with
   | false=>rw [hf] at hq; cases hq
   | true=>rw [hf] at hq; cases hq; exact ⟨rfl,hf⟩
 split at hv
 ·rename_i x ho; cases hv
  exact ⟨ρ' x,by simp [execOp,ho],hop x (by simp [ho,Op.operands])⟩
 ·rename_i x ho; cases hv
  exact ⟨ρ' x,by simp [execOp,ho],hop x (by simp [ho,Op.operands])⟩
 ·rename_i c a b ho
  have h1:=hop c (by simp [ho,Op.operands])
  have h2:=hop a (by simp [ho,Op.operands])
  have h3:=hop b (by simp [ho,Op.operands])
  split at hv
  ·rename_i t hc
   cases hv
   rw [hc] at h1
   generalize hc':ρ' c = c' at h1
   cases h1
   refine ⟨if t then ρ' a else ρ' b,by simp [execOp,ho,hc',asBool],?_⟩
   cases t
   ·simpa using h3
   ·simpa using h2
  ·cases hv
 ·rename_i t a ho
  obtain ⟨ad,e,y,q1,q2⟩:=zcO h hv (hop a (by simp [ho,Op.operands]))
  exact ⟨y,by simp [execOp,ho,Instr.loadAt,Instr.sureAddr,e,q1],q2⟩
 ·rename_i x ho
  have h1:=hop x (by simp [ho,Op.operands])
  split at hv
  ·rename_i b f hx
   rw [hx] at h1
   generalize hx':ρ' x = x' at h1
   cases hv
   refine ⟨x',?_,h1⟩
   cases h1
   simp [execOp,ho,hx']
  ·rename_i f a b hx
   rw [hx] at h1
   generalize hx':ρ' x = x' at h1
   cases hv
   refine ⟨x',?_,h1⟩
   cases h1 with
   | func hf _ _ _ _ =>
    cases hf
    simp [execOp,ho,hx']
  ·rename_i t u hx
   rw [hx] at h1
   generalize hx':ρ' x = x' at h1
   cases hv
   refine ⟨x',?_,h1⟩
   cases h1
   simp [execOp,ho,hx']
  ·cases hv
 ·rename_i op t x y yt ho
  have h1:=hop x (by simp [ho,Op.operands])
  have h2:=hop y (by simp [ho,Op.operands])
  unfold zxK at hv
  cases hf:(flat (ρ x) && flat (ρ y)) with
  | true =>
   rw [hf] at hv
   simp only [cond_true] at hv
   simp only [zyL] at hf
   obtain ⟨q1,q2⟩:=fl hv
   have:=qd _ q1 w
   rw [<- h1.eq_flat hf.1,<- h2.eq_flat hf.2] at this
   exact ⟨v,by simp only [execOp,ho]; rw [Sem.run_bind,this]; rfl,VR.refl_flat q2⟩
  | false =>
   rw [hf] at hv
   simp only [cond_false] at hv
   split at hv
   ·split at hv
    ·rename_i b hb
     cases hv
     have:=(zmQ hb h1 h2 w x y).1
     exact ⟨.bool b,by simp only [execOp,ho]; rw [Sem.run_bind,this]; rfl,.bool _⟩
    ·cases hv
   ·split at hv
    ·rename_i b hb
     cases hv
     have:=(zmQ hb h1 h2 w x y).2
     exact ⟨.bool !b,by simp only [execOp,ho]; rw [Sem.run_bind,this]; rfl,.bool _⟩
    ·cases hv
   ·cases hv
 ·rename_i op t x ho
  have h1:=hop x (by simp [ho,Op.operands])
  cases hf:flat (ρ x) with
  | false=>rw [hf] at hv; cases hv
  | true =>
   rw [hf] at hv
   simp only [cond_true] at hv
   obtain ⟨q1,q2⟩:=fl hv
   have:=qd _ q1 w
   rw [<- h1.eq_flat hf] at this
   exact ⟨v,by simp [execOp,ho,this],VR.refl_flat q2⟩
 ·rename_i s d x ho
  have h1:=hop x (by simp [ho,Op.operands])
  unfold zvY at hv
  cases hf:flat (ρ x) with
  | false =>
   rw [hf] at hv
   simp only [cond_false] at hv
   split at hv
   ·rename_i u hu
    cases hv
    obtain ⟨q1,q2⟩:=zmS h hu h1
    exact ⟨v,by simp [execOp,ho,q1],VR.refl_flat q2⟩
   ·obtain ⟨y,q1,q2⟩:=zoR h hv h1
    exact ⟨y,by simp [execOp,ho,q1],q2⟩
  | true =>
   rw [hf] at hv
   simp only [cond_true] at hv
   obtain ⟨q1,q2⟩:=fl hv
   have:=qd _ q1 w
   rw [<- h1.eq_flat hf] at this
   exact ⟨v,by simp [execOp,ho,this],VR.refl_flat q2⟩
 ·rename_i t x ho
  have h1:=hop x (by simp [ho,Op.operands])
  split at hv
  ·cases hv
  ·rename_i d hn hu
   cases hv
   refine ⟨.iface t (ρ' x),?_,.iface h1⟩
   cases d <;> first | (exact (hn _ rfl).elim) | simp [execOp,ho,Instr.makeInterface,run_underlying hu]
  ·cases hv
 ·rename_i f a b ho
  cases hf:zeE f with
  | false=>rw [hf] at hv; cases hv
  | true =>
   rw [hf] at hv; cases hv
   have m1:∀ x ∈ a.toList,x ∈ o.op.operands:=fun x hx=>by
    rw [ho]; exact Array.mem_append.2 (.inl (by simpa using hx))
   have m2:∀ x ∈ b.toList,x ∈ o.op.operands:=fun x hx=>by
    rw [ho]; exact Array.mem_append.2 (.inr (by simpa using hx))
   have r1:=(zaY (ρ:=ρ) (ρ':=ρ') (L:=L) a.toList fun x hx=>hop x (m1 x hx)).toArray
   have r2:=(zaY (ρ:=ρ) (ρ':=ρ') (L:=L) b.toList fun x hx=>hop x (m2 x hx)).toArray
   refine ⟨.func f (a.map ρ') (b.map ρ'),by simp [execOp,ho,Instr.makeFunc],?_⟩
   have e1:a.map ρ' = (a.toList.map ρ').toArray:=by apply Array.ext'; simp
   have e2:b.map ρ' = (b.toList.map ρ').toArray:=by apply Array.ext'; simp
   rw [e1,e2]
   exact .func (.same hf) r1.1 r2.1 r1.2 r2.2
 ·rename_i t x lo hi mx ho
  have h1:=hop x (by simp [ho,Op.operands])
  have o1:OR L (Zt ρ lo) (lo.map ρ'):=zoS fun y hy=>hop y (by simp [ho,Op.operands,hy])
  have o2:OR L (Zt ρ hi) (hi.map ρ'):=zoS fun y hy=>hop y (by simp [ho,Op.operands,hy])
  have o3:OR L (Zt ρ mx) (mx.map ρ'):=zoS fun y hy=>hop y (by simp [ho,Op.operands,hy])
  split at hv
  ·rename_i s hx
   rw [hx] at h1
   generalize hx':ρ' x = x' at h1
   cases h1
   cases hf:(zhi (Zt ρ lo) && zhi (Zt ρ hi) && zhi (Zt ρ mx)) with
   | false=>rw [hf] at hv; cases hv
   | true =>
    rw [hf] at hv
    simp only [cond_true] at hv
    simp only [zyL] at hf
    split at hv
    ·rename_i r hr
     cases hv
     have:=qd _ hr w
     rw [<- o1.eq_flat hf.1.1,<- o2.eq_flat hf.1.2,<- o3.eq_flat hf.2] at this
     exact ⟨.string r,by simp [execOp,ho,hx',this],.string r⟩
    ·cases hv
  ·obtain ⟨z,q1,q2⟩:=zmO hv h1 o1 o2 o3 w
   exact ⟨z,by simp [execOp,ho,q1],q2⟩
 ·rename_i s x f ho
  obtain ⟨z,q1,q2⟩:=zf1 hv (hop x (by simp [ho,Op.operands])) w
  exact ⟨z,by simp [execOp,ho,q1],q2⟩
 ·rename_i t x f ho
  obtain ⟨z,q1,q2⟩:=zmM hv (hop x (by simp [ho,Op.operands])) w
  exact ⟨z,by simp [execOp,ho,q1],q2⟩
 ·rename_i t x i ho
  obtain ⟨z,q1,q2⟩:=zf2 hv (hop x (by simp [ho,Op.operands])) (hop i (by simp [ho,Op.operands])) w
  exact ⟨z,by simp [execOp,ho,q1],q2⟩
 ·rename_i t x i ho
  have h1:=hop x (by simp [ho,Op.operands])
  have h2:=hop i (by simp [ho,Op.operands])
  split at hv
  ·rename_i s hx
   rw [hx] at h1
   generalize hx':ρ' x = x' at h1
   cases h1
   cases hf:flat (ρ i) with
   | false=>rw [hf] at hv; cases hv
   | true =>
    rw [hf] at hv
    simp only [cond_true] at hv
    split at hv
    ·rename_i k n hr
     cases hv
     have:=qd _ hr w
     rw [<- h2.eq_flat hf] at this
     exact ⟨.int k n,by simp [execOp,ho,hx',this],.int k n⟩
    ·cases hv
  ·obtain ⟨z,q1,q2⟩:=zmN hv h1 h2 w
   exact ⟨z,by simp [execOp,ho,q1],q2⟩
 ·rename_i t m k ok ho
  obtain ⟨z,q1,q2⟩:=zkO h hv (hop m (by simp [ho,Op.operands])) (hop k (by simp [ho,Op.operands]))
  exact ⟨z,by simp [execOp,ho,q1],q2⟩
 ·rename_i x xt a ok ho
  obtain ⟨z,q1,q2⟩:=zkM (xT:=xt) hv (hop x (by simp [ho,Op.operands])) w
  exact ⟨z,by simp [execOp,ho,q1],q2⟩
 ·rename_i x i ho
  have h1:=hop x (by simp [ho,Op.operands])
  split at hv
  ·rename_i vs hx
   rw [hx] at h1
   generalize hx':ρ' x = x' at h1
   cases h1 with
   | tuple a b =>
    rename_i xs
    obtain ⟨z,q1,q2⟩:=AR.get ⟨a,b⟩ (i:=i) (v:=v) (by simpa using hv)
    exact ⟨z,by simp [execOp,ho,hx',Instr.extract,q1],q2⟩
  ·cases hv
 ·rename_i t ps ho
  have hrel:LR L ((ps.toList.map fun x=>(x.1,ρ x.2)).map (·.2)) ((ps.toList.map fun x=>(x.1,ρ' x.2)).map (·.2)):=by
   have:=zaY (ρ:=ρ) (ρ':=ρ') (L:=L) (ps.toList.map (·.2)) fun x hx=>hop x (by simp [ho,Op.operands]; simpa using hx)
   simpa [List.map_map,Function.comp_def] using this
  obtain ⟨z,q1,q2⟩:=zmP hv (vals:=ps.toList.map fun x=>(x.1,ρ' x.2)) (by simp [List.map_map,Function.comp_def]) hrel w
  refine ⟨z,?_,q2⟩
  have e1:(ps.map fun (i,x)=>(i,ρ' x)) = (ps.toList.map fun x=>(x.1,ρ' x.2)).toArray:=by
   apply Array.ext'; simp
  simp only [execOp,ho]
  rw [e1]
  simp [q1]
 ·rename_i b args tys ho
  have hm:∀ x ∈ args.toList,x ∈ o.op.operands:=fun x hx=>by
   rw [ho]; simp only [Op.operands,Call.operands,Array.mem_append]; exact .inr (by simpa using hx)
  have hrel:=zaY (ρ:=ρ) (ρ':=ρ') (L:=L) args.toList fun x hx=>hop x (hm x hx)
  have hres:∀ w,(resolve ρ' { callee:=.builtin b,args:=args,argTypes:=tys } o.type).run P w = .ok { target:=.builtin b tys o.type (args.map fun | .const _=>true | _=>false),args:=args.map ρ' } w:=fun w=>by rfl
  unfold zmU at hv
  split at hv
  ·rename_i t x ht ha
   rw [ha] at hrel
   obtain ⟨y,ys,e1,h1,h2⟩:=hrel.cons_inv
   have:=h2.nil_inv; subst this
   obtain ⟨q1,q2⟩:=zri (u:=o.type) h hv h1
   have ea:args.map ρ' = #[y]:=by apply Array.ext'; simp [e1]
   have et:tys = #[t]:=by apply Array.ext'; simp [ht]
   refine ⟨v,?_,VR.refl_flat q2⟩
   simp only [execOp,ho]
   rw [Sem.run_bind,hres]
   simp [invoke,builtin,ea,et,q1]
  ·rename_i t x ht ha
   rw [ha] at hrel
   obtain ⟨y,ys,e1,h1,h2⟩:=hrel.cons_inv
   have:=h2.nil_inv; subst this
   obtain ⟨q1,q2⟩:=zrj (u:=o.type) hv h1 w
   have ea:args.map ρ' = #[y]:=by apply Array.ext'; simp [e1]
   have et:tys = #[t]:=by apply Array.ext'; simp [ht]
   refine ⟨v,?_,VR.refl_flat q2⟩
   simp only [execOp,ho]
   rw [Sem.run_bind,hres]
   simp [invoke,builtin,ea,et,q1]
  ·rename_i x ha
   rw [ha] at hrel
   obtain ⟨y,ys,e1,h1,h2⟩:=hrel.cons_inv
   have:=h2.nil_inv; subst this
   obtain ⟨z,q1,q2⟩:=zmT (P:=P) hv h1 tys o.type w
   have ea:args.map ρ' = #[y]:=by apply Array.ext'; simp [e1]
   refine ⟨z,?_,q2⟩
   simp only [execOp,ho]
   rw [Sem.run_bind,hres]
   simp [invoke,builtin,ea,q1]
  all_goals first
   | (cases hf:(List.map ρ args.toList).all flat with
    | false=>rw [hf] at hv; cases hv
    | true =>
     rw [hf] at hv
     simp only [cond_true] at hv
     split at hv
     ·rename_i v' hr
      cases hq:flat v' with
      | false=>rw [hq] at hv; cases hv
      | true =>
       rw [hq] at hv; cases hv
       have:=qd _ hr w
       have ea:args.map ρ' = (args.toList.map ρ).toArray:=by
        have:=hrel.eq_flat hf
        apply Array.ext'; simp [<- this]
       refine ⟨v,?_,VR.refl_flat hq⟩
       simp only [execOp,ho]
       rw [Sem.run_bind,hres]
       simp only [Result.andThen_ok,invoke,ea]
       simpa [builtin] using this
     ·cases hv)
   | cases hv
 ·cases hv
end
end Go.Run
noncomputable section
namespace Go.Run
open Go.RowKit
def zeG (cs:List Value) (ty:TypeId):AObj:=.cells cs.length (T.setRow .nil 0 cs) ty none (0,0)
def zoT (cs:List Value):Bool:=cs.all (·.oneCell') && zq cs.length
def zbQ (n:Nat) (z:List Value):List Value:=match n with
 | 0=>[]
 | n + 1=>z++zbQ n z
def zdP (P:Program) (H:AH) (ρ:Ev) (o:Oper):Option (AObj × (Nat->Value)) :=
 match o.op with
 | .alloc t=>match zeroT P t with
  | some z=>cond (zoT z.cells.toList) (some (zeG z.cells.toList t,fun b=>.pointer (some ⟨b,0,none⟩))) none
  | none=>none
 | .box t x=>cond (zoT (ρ x).cells.toList) (some (zeG (ρ x).cells.toList t,fun b=>.pointer (some ⟨b,0,none⟩))) none
 | .buildSlice t len ps=>match Q2 P t with
  | some (none,e)=>match sizeT P e,zeroT P e with
   | some sz,some z=>cond (Nat.beq z.cells.size sz && Nat.ble (len * sz) 16777216 && Nat.blt 0 sz) (match zhg (fun i=>some (i * sz,sz)) (zbQ len z.cells.toList) (ps.toList.map fun x=>(x.1,ρ x.2)) with
    | some out=>cond (zoT out) (some (zeG out e,fun b=>.slice (some ⟨b,0,none⟩) len (2 * len))) none
    | none=>none) none
   | _,_=>none
  | _=>none
 | .makeMap _ none=>some (.map [] 0,fun b=>.map (some b))
 | .makeSlice t l c=>match Q2 P t,ρ l,ρ c with
  | some (none,e),.int _ (.ofNat l),.int _ (.ofNat c)=>match P.info? e with
   | some i=>match i.zero with
    | some z=>cond (flat z && Nat.beq z.cells.size i.size && Nat.blt 0 i.size && Nat.ble l c && Nat.ble (i.bytes * c) 281474976710656 && Nat.ble c 4294967296) (cond (zoT (zbQ c z.cells.toList)) (some (zeG (zbQ c z.cells.toList) e,fun b=>.slice (some ⟨b,0,none⟩) l (2 * c))) none) none
    | none=>none
   | none=>none
  | _,_,_=>none
 | .range t x=>match P.underlying t,ρ x with
  | some .string,.string s=>some (.siter s 0,fun b=>.pointer (some ⟨b,0,none⟩))
  | some (.map _ _),.map none=>some (.miter none 0 #[] 0,fun b=>.pointer (some ⟨b,0,none⟩))
  | some (.map _ _),.map (some m)=>match H.get m with
   | some (.map _ clock)=>some (.miter (some m) clock #[] clock,fun b=>.pointer (some ⟨b,0,none⟩))
   | _=>none
  | _,_=>none
 | .convert s d x=>cond (zmR P s && zcj P d) (match ρ x,P.underlying d with
  | .string l,some (.slice e)=>cond (zq l.size) (some (.cells l.size (T.setRow .nil 0 (l.data.toList.map fun b=>Value.int .u8 (b.toNat:Int))) e (some 1) (1,0),fun b=>.slice (some ⟨b,0,none⟩) l.size (2 * l.size + 1))) none
  | _,_=>none) none
 | _=>none
section
variable {P:Program} {w0:World} {G:Nat} {L:Lam} {H:AH} {w:World}
theorem zoU {L:Lam} {w:World} {b:Nat} {cs:List Value} {xs:Array Value} {ty:TypeId} {e:Nat} (ho:zoT cs = true) (hr:LR L cs xs.toList) (hb:w.heap[b]? = some (.cells xs ty (0,0))):Y7 L w ⟨b,0,e⟩ (zeG cs ty):=by
 simp only [zoT,zyL] at ho
 refine ⟨xs,(0,0),hb,.inl ⟨rfl,rfl⟩,⟨rfl,by have:=hr.1; simpa using this.symm⟩,fun i hi=>?_⟩
 obtain ⟨x,q1,q2⟩:=hr.get (zys hi)
 refine ⟨cs[i],x,?_,by simpa using q1,q2,?_⟩
 ·rw [T.get_setRow _ _ _ (by simpa using ho.2),if_pos ⟨Nat.zero_le _,by omega⟩]
  simp
 ·rw [q2.oneCell]; exact List.all_eq_true.1 ho.1 _ (List.getElem_mem hi)
theorem zft (z:List Value):∀ n,(zbQ n z).length = n * z.length
 | 0=>by simp [zbQ]
 | n + 1=>by simp [zbQ,zft z n,Nat.add_mul,Nat.add_comm]
theorem zmV (z:List Value) (hz:0 < z.length):∀ n i,i < n * z.length->(zbQ n z)[i]? = z[i % z.length]?
 | 0,i,h=>by simp at h
 | n + 1,i,h=>by
  simp only [zbQ]
  rcases Nat.lt_or_ge i z.length with q | q
  ·rw [List.getElem?_append_left q,Nat.mod_eq_of_lt q]
  ·rw [List.getElem?_append_right q,zmV z hz n (i - z.length) (by rw [Nat.add_mul] at h; omega)]
   rw [Nat.mod_eq_sub_mod q]
theorem zhk (z:Array Value) (hz:0 < z.size) (n:Nat):((Array.range (n * z.size)).map (z[· % z.size]!)).toList = zbQ n z.toList:=by
 apply List.ext_getElem?
 intro i
 rcases Nat.lt_or_ge i (n * z.size) with q | q
 ·rw [zmV _ (by simpa using hz) n i (by simpa using q)]
  have hm:i % z.size < z.size:=Nat.mod_lt _ hz
  simp [q,hm]
 ·have h1:(zbQ n z.toList)[i]? = none:=List.getElem?_eq_none (by rw [zft]; simpa using q)
  rw [h1]
  simp [q]
theorem LR.refl_flat {L:Lam} {cs:List Value} (h:∀ c ∈ cs,yD 16 c = true):LR L cs cs :=
 ⟨rfl,fun i v x h1 h2=>by rw [h1] at h2; cases h2; exact VR.refl_flat (h v (List.mem_of_getElem? h1))⟩
theorem zhl:∀ (n m:Nat) (v:Value),n <= m->yD n v = true->yD m v = true
 | 0,_,_,_,h=>by simp [yD] at h
 | n + 1,0,_,h,_=>by omega
 | n + 1,m + 1,v,hm,h=>by
  have ih:=fun v=>zhl n m v (by omega)
  cases v with
  | iface t v=>exact ih v h
  | agg cs=>simp only [yD,zyS] at h ⊢; exact fun x hx=>ih x (h x hx)
  | tuple cs=>simp only [yD,zyS] at h ⊢; exact fun x hx=>ih x (h x hx)
  | func f a b =>
   simp only [yD,zyL,zyS] at h ⊢
   exact ⟨⟨h.1.1,fun x hx=>ih x (h.1.2 x hx)⟩,fun x hx=>ih x (h.2 x hx)⟩
  | pointer a=>cases a <;> simp [yD] at h ⊢
  | slice a l c=>cases a <;> cases l <;> cases c <;> simp [yD] at h ⊢
  | map r=>cases r <;> simp [yD] at h ⊢
  | chan r=>cases r <;> simp [yD] at h ⊢
  | _=>rfl
theorem zcR {z:Value} (h:flat z = true):∀ c ∈ z.cells.toList,yD 16 c = true:=by
 intro c hc
 unfold flat at h
 cases z with
 | agg cs =>
  simp only [yD,zyS] at h
  exact zhl 15 16 c (by omega) (h c hc)
 | _=>simp only [Value.cells,List.mem_cons,List.not_mem_nil,or_false] at hc; subst hc; exact h
theorem zhm {z:List Value} {c:Value}:∀ {n:Nat},c ∈ zbQ n z->c ∈ z
 | 0,h=>by simp [zbQ] at h
 | n + 1,h=>by
  simp only [zbQ,List.mem_append] at h
  rcases h with h | h
  ·exact h
  ·exact zhm h
def Laid (L:Lam) (w w':World) (ob:AObj) (mk:Nat->Value) (x:Value):Prop :=
 zdJ w w'/\∃ e,∀ (L':Lam) (b:Nat),L.le L'->L' b = some ⟨w.heap.size,0,e⟩->Y7 L' w' ⟨w.heap.size,0,e⟩ ob/\VR L' (mk b) x
theorem Laid.cells {cs:List Value} {xs:Array Value} {ty:TypeId} {mk:Nat->Value} {x:Value} (ho:zoT cs = true) (hr:LR L cs xs.toList) (hmk:∀ (L':Lam) (b:Nat),L' b = some ⟨w.heap.size,0,0⟩->VR L' (mk b) x) :
  Laid L w (w.alloc (.cells xs ty)) (zeG cs ty) mk x :=
 ⟨zdJ.alloc w _,0,fun L' b hl hb=>⟨zoU ho (hr.mono hl) (by simp [World.alloc,-World.alloc_eq]),hmk L' b hb⟩⟩
theorem zhn {L':Lam} {b c e:Nat} (h:L' b = some ⟨c,0,e⟩):VR L' (.pointer (some ⟨b,0,none⟩)) (.pointer (some ⟨c,0,none⟩)):=VR.ptr (o:=0) h
theorem zmW {L':Lam} {b c e l k:Nat} (h:L' b = some ⟨c,0,e⟩):VR L' (.slice (some ⟨b,0,none⟩) l (2 * k)) (.slice (some ⟨c,0,none⟩) l k):=by
 have:=VR.slice (o:=0) (len:=l) (cap:=2 * k) h
 rwa [zcg,Nat.zero_add] at this
theorem zho (h:zH w0 G L H w) {ρ ρ':Ev} {o:Oper} {ob:AObj} {mk:Nat->Value} (hv:zdP P H ρ o = some (ob,mk)) (hop:∀ x ∈ o.op.operands,VR L (ρ x) (ρ' x)) :
  ∃ x w',(execOp ρ' o).run P w = .ok (.value x) w'/\Laid L w w' ob mk x:=by
 have cc:∀ {c:Bool} {q r:Option (AObj × (Nat->Value))},(bif c then q else none) = r->r ≠ none->c = true/\q = r:=by
  intro c q r h1 h2
  cases c
  ·exact (h2 h1.symm).elim
  ·exact ⟨rfl,h1⟩
 unfold zdP at hv
 split at hv
 ·rename_i t ho
  split at hv
  ·rename_i z hz
   obtain ⟨c1,hv⟩:=cc hv (by simp)
   cases hv
   obtain ⟨z1,z2⟩:=zeroT_spec hz
   refine ⟨.pointer (some ⟨w.heap.size,0,none⟩),w.alloc (.cells z.cells t),?_,?_⟩
   ·simp [execOp,ho,Instr.alloc,z1,newVar,newRow]
   ·exact Laid.cells c1 (LR.refl_flat (zcR z2)) fun L' b hb=>zhn hb
  ·cases hv
 ·rename_i t x ho
  have h1:=hop x (by simp [ho,Op.operands])
  obtain ⟨c1,hv⟩:=cc hv (by simp)
  cases hv
  refine ⟨.pointer (some ⟨w.heap.size,0,none⟩),w.alloc (.cells (ρ' x).cells t),?_,?_⟩
  ·simp [execOp,ho,Instr.box,newVar,newRow]
  ·exact Laid.cells c1 h1.cells.toList fun L' b hb=>zhn hb
 ·rename_i t len ps ho
  split at hv
  ·rename_i e he
   have hu:=qS he
   split at hv
   ·rename_i sz z hs hz
    obtain ⟨c1,hv⟩:=cc hv (by simp)
    simp only [zyL] at c1
    obtain ⟨⟨c1,c2⟩,c3⟩:=c1
    have hzs:z.cells.size = sz:=zyM c1
    have hle:len * sz <= 16777216:=by simpa using c2
    have hpos:0 < sz:=by simpa using c3
    obtain ⟨z1,z2⟩:=zeroT_spec hz
    split at hv
    ·rename_i out hout
     obtain ⟨c4,hv⟩:=cc hv (by simp)
     cases hv
     have hrel:LR L ((ps.toList.map fun x=>(x.1,ρ x.2)).map (·.2)) ((ps.toList.map fun x=>(x.1,ρ' x.2)).map (·.2)):=by
      have:=zaY (ρ:=ρ) (ρ':=ρ') (L:=L) (ps.toList.map (·.2)) fun x hx=>hop x (by simp [ho,Op.operands]; simpa using hx)
      simpa [List.map_map,Function.comp_def] using this
     have hzz:((Array.range (len * sz)).map (z.cells[· % z.cells.size]!)).toList = zbQ len z.cells.toList:=by
      rw [<- hzs]
      exact zhk z.cells (by omega) len
     obtain ⟨cur,q1,q2⟩:=zaU (L:=L) _ (ps.toList.map fun x=>(x.1,ρ' x.2)) (zbQ len z.cells.toList) ((Array.range (len * sz)).map (z.cells[· % z.cells.size]!)) out (by simp [List.map_map,Function.comp_def]) hrel
      (by rw [hzz]; exact LR.refl_flat fun c hc=>zcR z2 c (zhm hc)) hout
     have hnot:¬ (16777216 < len * sz):=by omega
     refine ⟨.slice (some ⟨w.heap.size,0,none⟩) len len,w.alloc (.cells cur e),?_,Laid.cells c4 q2 fun L' b hb=>zmW hb⟩
     have e1:(ps.map fun (i,x)=>(i,ρ' x)) = (ps.toList.map fun x=>(x.1,ρ' x.2)).toArray:=by
      apply Array.ext'; simp
     simp only [execOp,ho]
     rw [e1]
     by_cases h0:len * sz = 0
     ·have hl:len = 0:=by
       rcases Nat.mul_eq_zero.1 h0 with q | q
       ·exact q
       ·omega
      subst hl
      simp only [Nat.zero_mul] at q1
      simp [Instr.buildSlice,run_underlying hu,run_sizeOf hs,newRow]
      have q1':Instr.fill (fun i=>some (i * sz,sz)) #[] (ps.toList.map fun x=>(x.1,ρ' x.2)) = some cur:=by simpa [Array.range_zero'] using q1
      simp [Array.range_zero',q1']
     ·simp [Instr.buildSlice,run_underlying hu,run_sizeOf hs,hnot,h0,z1,q1,newRow]
    ·cases hv
   ·cases hv
  ·cases hv
 ·rename_i t ho
  cases hv
  refine ⟨.map (some w.heap.size),w.alloc (.map #[] 0),by simp [execOp,ho,Instr.makeMap],zdJ.alloc w _,0,fun L' b hl hb=>⟨⟨#[],by simp [World.alloc,-World.alloc_eq],rfl,fun i e e' h1=>by simp at h1⟩,.map hb⟩⟩
 ·rename_i t l c ho
  have h1:=hop l (by simp [ho,Op.operands])
  have h2:=hop c (by simp [ho,Op.operands])
  split at hv
  ·rename_i e kl n kc m he hl hc
   have hu:=qS he
   rw [hl] at h1; rw [hc] at h2
   generalize hl':ρ' l = l' at h1
   generalize hc':ρ' c = c' at h2
   cases h1; cases h2
   split at hv
   ·rename_i i hi
    split at hv
    ·rename_i z hz
     obtain ⟨c1,hv⟩:=cc hv (by simp)
     obtain ⟨c4,hv⟩:=cc hv (by simp)
     cases hv
     simp only [zyL] at c1
     obtain ⟨⟨⟨⟨⟨a1,a2⟩,a3⟩,a4⟩,a5⟩,a6⟩:=c1
     have a2:z.cells.size = i.size:=zyM a2
     have a3:0 < i.size:=by simpa using a3
     have a4:n <= m:=by simpa using a4
     have a5:i.bytes * m <= 281474976710656:=by simpa using a5
     have a6:m <= 4294967296:=by simpa using a6
     have hb':(i.bytes:Int) * (m:Int) <= 281474976710656:=by
      have:((i.bytes * m:Nat):Int) <= 281474976710656:=by omega
      rwa [Int.natCast_mul] at this
     have hrun:=run_make (P:=P) w t e i z hu hi hz kl kc (n:Int) (m:Int) (by omega) (by omega) hb' (by omega)
     have hrun':(Instr.makeSlice t (.int kl (Int.ofNat n)) (.int kc (Int.ofNat m))).run P w = .ok (.slice (some ⟨w.heap.size,0,none⟩) n m) (w.alloc (.cells (madeCells z.cells (m * i.size)) e)):=hrun
     have hcells:(madeCells z.cells (m * i.size)).toList = zbQ m z.cells.toList:=by
      rw [<- a2]
      exact zhk z.cells (by omega) m
     refine ⟨_,_,by simp only [execOp,ho]; rw [hl',hc',Sem.run_bind,hrun']; rfl,?_⟩
     exact Laid.cells c4 (by rw [hcells]; exact LR.refl_flat fun c hc=>zcR a1 c (zhm hc)) fun L' b hb=>zmW hb
    ·cases hv
   ·cases hv
  ·cases hv
 ·rename_i t x ho
  have h1:=hop x (by simp [ho,Op.operands])
  split at hv
  ·rename_i s hu hx
   cases hv
   rw [hx] at h1
   generalize hx':ρ' x = x' at h1
   cases h1
   refine ⟨.pointer (some ⟨w.heap.size,0,none⟩),w.alloc (.stringIter s 0),by simp [execOp,ho,hx',Instr.range,run_underlying hu],zdJ.alloc w _,0,fun L' b hl hb=>⟨⟨rfl,by simp [World.alloc,-World.alloc_eq]⟩,zhn hb⟩⟩
  ·rename_i k e hu hx
   cases hv
   rw [hx] at h1
   generalize hx':ρ' x = x' at h1
   cases h1
   refine ⟨.pointer (some ⟨w.heap.size,0,none⟩),w.alloc (.mapIter none 0 #[] 0),by simp [execOp,ho,hx',Instr.range,run_underlying hu],zdJ.alloc w _,0,fun L' b hl hb=>⟨⟨rfl,none,by simp [World.alloc,-World.alloc_eq],.nilm⟩,zhn hb⟩⟩
  ·rename_i k e m hu hx
   split at hv
   ·rename_i es clock hm
    cases hv
    rw [hx] at h1
    generalize hx':ρ' x = x' at h1
    cases h1 with
    | map hp =>
     rename_i p
     obtain ⟨es',q1,q2⟩:=h.obj m _ p hm hp
     refine ⟨.pointer (some ⟨w.heap.size,0,none⟩),w.alloc (.mapIter (some p.b) clock #[] clock),by simp [execOp,ho,hx',Instr.range,run_underlying hu,yz q1 rfl],zdJ.alloc w _,0,
      fun L' b hl hb=>⟨⟨rfl,some p.b,by simp [World.alloc,-World.alloc_eq],.map (hl _ _ hp)⟩,zhn hb⟩⟩
   ·cases hv
  ·cases hv
 ·rename_i s d x ho
  have h1:=hop x (by simp [ho,Op.operands])
  obtain ⟨c1,hv⟩:=cc hv (by simp)
  simp only [zyL] at c1
  have hs:=zhh c1.1
  obtain ⟨e,hd,he⟩:=zaW c1.2
  split at hv
  ·rename_i l e' hx hd'
   rw [hd] at hd'; cases hd'
   obtain ⟨c2,hv⟩:=cc hv (by simp)
   cases hv
   rw [hx] at h1
   generalize hx':ρ' x = x' at h1
   cases h1
   have hrun:=Lib.run_convert_string_bytes (P:=P) w s d e l hs hd he
   have hge:=grownCap_ge w l.size 0 e
   refine ⟨_,_,by simp only [execOp,ho]; rw [hx']; simp only [Sem.run_bind,hrun]; rfl,⟨Lib.bytesWorld_size w e l,Lib.bytesWorld_at_old w e l,rfl,rfl,rfl⟩,grownCap w l.size 0 e - l.size,fun L' b hl hb=>⟨?_,?_⟩⟩
   ·refine ⟨_,_,Lib.bytesWorld_at_new w e l,.inr (.inl ⟨rfl,.inr (zyF _)⟩),?_,fun i hi=>?_⟩
    ·simp only [Lib.bytesCells,Array.size_append,Array.size_map,Array.size_replicate]
     show l.data.size + _ = _
     have:l.data.size = l.size:=rfl
     omega
    ·have hli:i < l.data.toList.length:=by simpa using hi
     refine ⟨.int .u8 ((l.data.toList[i]).toNat:Int),.int .u8 ((l.data.toList[i]).toNat:Int),?_,?_,.int _ _,rfl⟩
     ·rw [T.get_setRow _ _ _ rfl,if_pos ⟨Nat.zero_le _,by simpa using hli⟩]
      simp
      exact ⟨_,zyK (by simpa using hli),rfl⟩
     ·simp only [Lib.bytesCells]
      rw [Array.getElem?_append,if_pos (by simpa using hli)]
      simp
      exact ⟨_,zyK (by simpa using hli),rfl⟩
   ·have:=VR.slice (o:=0) (len:=l.size) (cap:=2 * l.size + 1) hb
    rwa [zbM,show l.size + (grownCap w l.size 0 e - l.size) = grownCap w l.size 0 e by omega] at this
  ·cases hv
 ·cases hv
end
end Go.Run
noncomputable section
namespace Go.Run
open Go.RowKit
def NF (fz:Nat × Nat) (a b:Nat):Prop:=∀ j,a <= j->j < b->¬ (fz.1 <= j/\j < fz.2)
theorem Ya (P:Program) (g o:Nat) (t:TypeId) (fz:Nat × Nat):∀ (vs:List Value) (i:Nat) (cur:Array Value) (w:World),w.heap[g]? = some (.cells cur t fz)->NF fz (o + i) (o + i + vs.length)->o + i + vs.length <= cur.size->(∀ v ∈ vs,v.oneCell' = true) ->
  (storeCells ⟨g,o,none⟩ vs i).run P w = .ok () (w.setRow g (cur.toList.take (o + i)++vs++cur.toList.drop (o + i + vs.length)).toArray)
 | [],i,cur,w,hg,_,_,_=>by
  simp only [storeCells,List.append_nil,List.length_nil,Nat.add_zero,List.take_append_drop,Array.toArray_toList]
  rw [setRow_self w g cur t fz hg]
  rfl
 | v :: rest,i,cur,w,hg,hfz,hl,h1=>by
  have hi:o + i < cur.size:=by simp at hl; omega
  have hadd:(⟨g,o,none⟩:Addr).add i = ⟨g,o + i,none⟩:=by unfold Addr.add; split <;> simp_all
  have hcell:w.cell? ⟨g,o + i,none⟩ = some cur[o + i]:=by simp [World.cell?,hg,hi]
  have hfro:w.frozen? ⟨g,o + i,none⟩ = false:=by
   obtain ⟨lo,hi'⟩:=fz
   have:=hfz (o + i) (zyF _) (by simp)
   simp only [World.frozen?,hg,Bool.and_eq_false_iff,decide_eq_false_iff_not]
   simp only at this
   omega
  have hst:(store ((⟨g,o,none⟩:Addr).add i) v).run P w = .ok () (w.setRow g (cur.setIfInBounds (o + i) v)):=by
   rw [hadd,run_store P w _ v _ (h1 v (by simp)),hcell]
   simp [hfro,setCell_eq_setRow w g (o + i) cur t fz v hg]
  have ih:=Ya P g o t fz rest (i + 1) (cur.setIfInBounds (o + i) v) (w.setRow g (cur.setIfInBounds (o + i) v)) (setRow_heap w g cur _ t _ hg) (fun j a b=>hfz j (by omega) (by simp; omega)) (by simp at hl ⊢; omega) (fun x hx=>h1 x (by simp [hx]))
  simp only [storeCells,Sem.run_bind,hst,Result.andThen_ok,ih,setRow_setRow]
  congr 3
  have e:=list_seg_step cur.toList (o + i) v rest (by simp at hl ⊢; omega)
  simpa [Array.toList_setIfInBounds,Nat.add_assoc] using e
structure Q3 (b:Nat) (w w':World):Prop where
 size:w'.heap.size = w.heap.size
 block:∀ k,k ≠ b->w'.heap[k]? = w.heap[k]?
 os:w'.os = w.os
 tape:w'.tape = w.tape
 output:w'.output = w.output
theorem Q3.setRow (w:World) (b:Nat) (cs:Array Value):Q3 b w (w.setRow b cs) :=
 ⟨setRow_size w b cs,fun k hk=>setRow_other w b k cs hk,rfl,rfl,rfl⟩
section
variable {P:Program} {w0:World} {G:Nat} {L:Lam} {H:AH} {w:World}
theorem zvZ {fz fr:Nat × Nat} {base size a b:Nat} (h:(fz = (0,0)/\fr = (0,0)) ∨ (fz = (1,0)/\(fr.2 <= fr.1 ∨ size <= fr.1)) ∨ (base = 0/\fr = fz) ∨ size < fz.2) (ha:fz.2 <= a) (hb:base + b <= size):NF fr (base + a) (base + b):=by
 intro j j1 j2 ⟨q1,q2⟩
 rcases h with ⟨rfl,rfl⟩ | ⟨rfl,h | h⟩ | ⟨rfl,rfl⟩ | h
 ·simp at q2
 ·omega
 ·omega
 ·omega
 ·omega
theorem zH.write (h:zH w0 G L H w) {b n:Nat} {t:T Value} {ty:TypeId} {op:Option Nat} {fz:Nat × Nat} {p:Pl} (hb:H.get b = some (.cells n t ty op fz)) (hp:L b = some p) (hG:G <= b) (hs:zq b = true) {off:Nat} {cs xs:List Value}
  (hfit:off + cs.length <= n) (_hsm:zq n = true) (ho:cs.all (·.oneCell') = true) (hfz:fz.2 <= off) (hr:LR L cs xs) :
  ∃ w',(storeCells ⟨p.b,p.base + off,none⟩ xs 0).run P w = .ok () w'/\zH w0 G L (H.set b (.cells n (t.setRow off cs) ty op fz)) w'/\Q3 p.b w w':=by
 obtain ⟨cur,fr,h1,h2,h3,h4⟩:=h.obj b _ p hb hp
 have hsize:p.base + n <= cur.size:=by
  cases op with
  | none=>simp only at h3; omega
  | some sz=>simp only at h3; omega
 have hxl:xs.length = cs.length:=hr.1.symm
 have hone:∀ v ∈ xs,v.oneCell' = true:=by
  intro x hx
  obtain ⟨i,hi,rfl⟩:=List.getElem_of_mem hx
  have hi':i < cs.length:=by omega
  have:=hr.2 i _ _ (zys hi') (zys hi)
  rw [this.oneCell]
  exact List.all_eq_true.1 ho _ (List.getElem_mem hi')
 have hrun:=Ya P p.b (p.base + off) ty fr xs 0 cur w h1 (by
  have:=zvZ (b:=off + xs.length) h2 hfz (by omega)
  simpa [Nat.add_assoc] using this) (by omega) hone
 simp only [Nat.add_zero] at hrun
 refine ⟨_,hrun,?_,Q3.setRow _ _ _⟩
 have hw:=Q3.setRow w p.b (cur.toList.take (p.base + off)++xs++cur.toList.drop (p.base + off + xs.length)).toArray
 refine h.upd hb rfl hp hG hs hw.block hw.size hw.os hw.tape hw.output ?_
 refine ⟨_,fr,setRow_heap w p.b cur _ ty fr h1,?_,?_,fun i hi=>?_⟩
 ·rcases h2 with h2 | ⟨a,c | c⟩ | h2 | h2
  ·exact .inl h2
  ·exact .inr (.inl ⟨a,.inl c⟩)
  ·exact .inr (.inl ⟨a,.inr (by simp; omega)⟩)
  ·exact .inr (.inr (.inl h2))
  ·exact .inr (.inr (.inr (by simp; omega)))
 ·have hlen:(cur.toList.take (p.base + off)++xs++cur.toList.drop (p.base + off + xs.length)).toArray.size = cur.size:=by simp; omega
  rw [hlen]; exact h3
 ·rw [T.get_setRow cs t off rfl]
  simp only [List.getElem?_toArray]
  by_cases q:off <= i/\i < off + cs.length
  ·rw [if_pos q]
   have hi':i - off < cs.length:=by omega
   obtain ⟨x,q1,q2⟩:=hr.get (zys hi')
   refine ⟨_,x,zys hi',?_,q2,?_⟩
   ·rw [zyI,List.getElem?_append_right (by simp; omega)]
    rw [List.getElem?_append_left (by simp; omega)]
    rw [<- q1]
    congr 1
    simp; omega
   ·rw [q2.oneCell]; exact List.all_eq_true.1 ho _ (List.getElem_mem hi')
  ·rw [if_neg q]
   obtain ⟨v,x,a1,a2,a3,a4⟩:=h4 i hi
   refine ⟨v,x,a1,?_,a3,a4⟩
   rcases Nat.lt_or_ge i off with r | r
   ·rw [zyI,List.getElem?_append_left (by simp; omega),List.getElem?_take,if_pos (by omega)]
    simpa using a2
   ·rw [List.getElem?_append_right (by simp; omega),List.getElem?_drop]
    rw [show p.base + off + xs.length + (p.base + i - (List.take (p.base + off) cur.toList++xs).length) = p.base + i by simp; omega]
    simpa using a2
def XOK (r:Result Next) (x:Value) (w':World):Prop:=r = .ok (.value x) w' ∨ (x = undef/\r = .ok .skip w')
def zyb (w0:World) (G:Nat) (L:Lam) (n:Nat) (l:List (Value × AH)) (r:Result Next):Prop :=
 ∃ v H',(v,H') ∈ l/\n <= H'.nx/\∃ x w' L',Lam.ext n L L'/\zH w0 G L' H' w'/\VR L' v x/\XOK r x w'
def zeH (P:Program) (G:Nat) (H:AH) (t:TypeId) (x y:Value):Option AH :=
 match x,sizeT P t with
 | .pointer (some ⟨b,off,none⟩),some sz=>match H.get b with
  | some (.cells n tr ty op fz)=>cond (Nat.ble G b && zq b && Nat.beq y.cells.size sz && Nat.ble (off + sz) n && zq n && y.cells.toList.all (·.oneCell') && Nat.ble fz.2 off) (some (H.set b (.cells n (tr.setRow off y.cells.toList) ty op fz))) none
  | _=>none
 | _,_=>none
theorem zmX (h:zH w0 G L H w) {t:TypeId} {v u x y:Value} {H':AH} (hr:zeH P G H t v u = some H') (hx:VR L v x) (hy:VR L u y):∃ w',(Instr.storeAt t x y).run P w = .ok () w'/\zH w0 G L H' w':=by
 unfold zeH at hr
 split at hr
 ·rename_i b off sz hs
  split at hr
  ·rename_i n tr ty op fz hb
   cases hc:(Nat.ble G b && zq b && Nat.beq u.cells.size sz && Nat.ble (off + sz) n && zq n && u.cells.toList.all (·.oneCell') && Nat.ble fz.2 off) with
   | false=>rw [hc] at hr; cases hr
   | true =>
    rw [hc] at hr; cases hr
    simp only [zyL] at hc
    obtain ⟨⟨⟨⟨⟨⟨c1,c2⟩,c3⟩,c4⟩,c5⟩,c6⟩,c7⟩:=hc
    have hsz:u.cells.size = sz:=zyM c3
    cases hx with
    | ptr hp =>
     rename_i p
     obtain ⟨w',q1,q2,_⟩:=h.write (P:=P) hb hp (by simpa using c1) c2 (off:=off) (cs:=u.cells.toList) (xs:=y.cells.toList) (by simp [hsz]; simpa using c4) c5 c6 (by simpa using c7) hy.cells.toList
     have hys:y.cells.size = sz:=by rw [<- hy.cells.1]; exact hsz
     exact ⟨w',by simp [Instr.storeAt,Instr.sureAddr,storeVar,run_sizeOf hs,hys,q1],q2⟩
  ·cases hr
 ·cases hr
end
end Go.Run
noncomputable section
namespace Go.Run
open Go.RowKit
def bytesT (P:Program) (t:TypeId):Option Nat:=(P.info? t).map (·.bytes)
def srcT (P:Program) (t:TypeId):Bool:=match P.underlying t with
 | some (.slice _)=>true
 | some .string=>true
 | _=>false
def zwQ (H:AH) (sz:Nat) (x:Value):Option (Nat × List Value) :=
 match x with
 | .slice none 0 0=>some (0,[])
 | .slice (some ⟨_,_,some 1⟩) 0 0=>some (0,[])
 | .slice (some ⟨b,o,none⟩) n _=>match zaT H b o (n * sz) with
  | some vs=>some (n,vs)
  | none=>none
 | .string s=>cond (Nat.beq sz 1) (some (s.size,s.data.toList.map fun b=>Value.int .u8 (b.toNat:Int))) none
 | _=>none
def zv0:Value->Bool
 | .slice none 0 0=>true
 | .slice (some ⟨_,_,some 1⟩) 0 0=>true
 | .slice (some ⟨_,_,none⟩) n cap=>Nat.ble n (cap / 2)
 | _=>false
def zgl (P:Program) (G:Nat) (H:AH) (t u:TypeId) (s x:Value):Option (Value × AH) :=
 match Q2 P t with
 | some (none,e)=>match P.info? e with
  | none=>none
  | some i=>match zwQ H i.size x with
   | none=>none
   | some (m,news)=>cond (srcT P u && Nat.beq news.length (m * i.size) && Nat.blt 0 i.size && news.all (·.oneCell') && (match i.zero with | some z=>Nat.beq z.cells.size i.size && z.cells.toList.all (·.oneCell') | none=>false))
    (cond (Nat.beq m 0) (cond (zv0 s) (some (s,H)) none)
     (match s with
     | .slice none 0 0=>cond (Nat.ble (m * i.bytes) 140737488355328 && Nat.ble m 4294967296 && zq (m * i.size) && zq H.nx)
       (some (.slice (some ⟨H.nx,0,none⟩) m (2 * m + 1),H.push (.cells (m * i.size) (T.setRow .nil 0 news) e (some i.size) (0,0)))) none
     | .slice (some ⟨b,o,none⟩) n cap =>
      match H.get b,zaT H b o (n * i.size) with
      | some (.cells nn tr ty op fz),some olds =>
       let k:=cap / 2
       cond (Nat.ble (n + m) k)
              (cond (Nat.ble G b && zq b && zq nn && Nat.ble (o + n * i.size + news.length) nn && Nat.ble fz.2 (o + n * i.size)) (some (.slice (some ⟨b,o,none⟩) (n + m) cap,H.set b (.cells nn (tr.setRow (o + n * i.size) news) ty op fz))) none)
              (cond (Nat.ble ((n + m) * i.bytes) 140737488355328 && Nat.ble (n + m) 4294967296 && zq ((n + m) * i.size) && zq H.nx && zq b && Nat.beq olds.length (n * i.size) && Nat.ble n k)
               (cond (ZX cap)
                (cond (Nat.ble G b && Nat.beq ty e && (match op with | some sz=>Nat.beq sz i.size | none=>false) && Nat.beq nn (o + k * i.size) && (Nat.beq fz.1 0 || Nat.beq fz.1 1) && Nat.beq fz.2 0)
                    (some (.slice (some ⟨H.nx,0,none⟩) (n + m) (2 * (n + m) + 1),(H.set b .dead).push (.cells ((n + m) * i.size) (T.setRow .nil 0 (olds++news)) e (some i.size) fz))) none)
                (some (.slice (some ⟨H.nx,0,none⟩) (n + m) (2 * (n + m) + 1),H.push (.cells ((n + m) * i.size) (T.setRow .nil 0 (olds++news)) e (some i.size) (0,0)))))
               none)
      | _,_=>none
     | _=>none)) none
 | _=>none
section
variable {P:Program} {w0:World} {G:Nat} {L:Lam} {H:AH} {w:World}
theorem srcT_spec {u:TypeId} (h:srcT P u = true):P.underlying u = some .string ∨ ∃ e',P.underlying u = some (.slice e'):=by
 unfold srcT at h
 split at h
 ·rename_i e' hu; exact .inr ⟨e',hu⟩
 ·rename_i hu; exact .inl hu
 ·cases h
theorem zrk (h:zH w0 G L H w) {sz m:Nat} {v x:Value} {vs:List Value} (hr:zwQ H sz v = some (m,vs)) (hx:VR L v x):∃ xs:List Value,LR L vs xs/\(∀ w',(Builtin.lenOf x).run P w' = .ok m w') /\
  ∀ w',w'.heap = w.heap->(Builtin.firstCells sz m x).run P w' = .ok xs.toArray w':=by
 unfold zwQ at hr
 split at hr
 ·cases hr; cases hx
  exact ⟨[],LR.nil L,fun w'=>by simp [Builtin.lenOf],fun w' _=>by simp [Builtin.firstCells]⟩
 ·cases hr; cases hx
  exact ⟨[],LR.nil L,fun w'=>by simp [Builtin.lenOf],fun w' _=>by simp [Builtin.firstCells,loadCells,loadCellsFrom]⟩
 ·rename_i b o n c
  split at hr
  ·rename_i vs' hc
   cases hr
   cases hx with
   | slice hp =>
    rename_i p
    obtain ⟨xs,q1,q2,q3⟩:=ZF h hc hp
    refine ⟨xs,q1,fun w'=>by simp [Builtin.lenOf],fun w' hw=>?_⟩
    have:=run_loadCells_list (P:=P) w' ⟨p.b,p.base + o,none⟩ xs (fun j v hv=>by
     rw [Addr.add_none]
     have:=(q3 j v hv).1
     simpa [World.cell?,hw] using this)
    rw [q2] at this
    simp [Builtin.firstCells,this]
  ·cases hr
 ·rename_i s
  cases hq:Nat.beq sz 1 with
  | false=>rw [hq] at hr; cases hr
  | true =>
   rw [hq] at hr; cases hr
   cases hx
   refine ⟨s.data.toList.map fun b=>Value.int .u8 (b.toNat:Int),LR.refl_flat (by simp [yD]),fun w'=>by simp [Builtin.lenOf],fun w' _=>?_⟩
   have:s.extract 0 s.size = s:=by
    apply ByteArray.ext
    simp
   simp only [Builtin.firstCells,this]
   have e:(Array.map (fun b=>Value.int .u8 (b.toNat:Int)) s.data) = (s.data.toList.map fun b=>Value.int .u8 (b.toNat:Int)).toArray:=by
    apply Array.ext'; simp
   rw [e]; simp
 ·cases hr
theorem run_append_room {t u ty e:TypeId} {i:TypeInfo} (ht:P.underlying t = some (.slice e)) (hu:srcT P u = true) (hi:P.info? e = some i)
  {c o n cap m:Nat} {xv:Value} {news:List Value} {w':World}
  (hxl:(Builtin.lenOf xv).run P w = .ok m w) (hxf:(Builtin.firstCells i.size m xv).run P w = .ok news.toArray w) (hroom:n + m <= cap)
  (hst:(storeCells ⟨c,o + n * i.size,none⟩ news 0).run P w = .ok () w') :
  (Builtin.append_ #[t,u] ty #[.slice (some ⟨c,o,none⟩) n cap,xv]).run P w = .ok (.slice (some ⟨c,o,none⟩) (n + m) cap) w':=by
 rcases srcT_spec hu with hd | ⟨e2,hd⟩ <;> simp [Builtin.append_,run_underlying ht,run_underlying hd,sizeOf,typeInfo,hi,hxl,hroom,hxf,Addr.add_none,hst]
theorem run_append_none {t u ty e:TypeId} {i:TypeInfo} (ht:P.underlying t = some (.slice e)) (hu:srcT P u = true) (hi:P.info? e = some i)
  {base:Option Addr} {sLen sCap:Nat} {xv:Value} {w:World}
  (hxl:(Builtin.lenOf xv).run P w = .ok 0 w) (hxf:(Builtin.firstCells i.size 0 xv).run P w = .ok #[] w) (hroom:sLen <= sCap) :
  (Builtin.append_ #[t,u] ty #[.slice base sLen sCap,xv]).run P w = .ok (.slice base sLen sCap) w:=by
 rcases srcT_spec hu with hd | ⟨e2,hd⟩ <;> cases base <;> simp [Builtin.append_,run_underlying ht,run_underlying hd,sizeOf,typeInfo,hi,hxl,hroom,hxf,storeCells]
theorem run_append_new {t u ty e:TypeId} {i:TypeInfo} {z:Value} (ht:P.underlying t = some (.slice e)) (hu:srcT P u = true) (hi:P.info? e = some i) (hz:i.zero = some z)
  {base:Option Addr} {sLen sCap m:Nat} {xv:Value} {olds news:List Value} {w:World}
  (hxl:(Builtin.lenOf xv).run P w = .ok m w) (hxf:(Builtin.firstCells i.size m xv).run P w.drew = .ok news.toArray w.drew)
  (hof:(Builtin.firstCells i.size sLen (.slice base sLen sCap)).run P w.drew = .ok olds.toArray w.drew)
  (hg:sCap < sLen + m) (h63:((sLen + m:Nat):Int) <= 9223372036854775807) (hfit:Builtin.nextslicecap (sLen + m) sCap * i.bytes <= 281474976710656) :
  (Builtin.append_ #[t,u] ty #[.slice base sLen sCap,xv]).run P w =
   .ok (.slice (some ⟨w.heap.size,0,none⟩) (sLen + m) (grownCap w (sLen + m) sCap e))
    (w.drew.alloc (.cells (olds.toArray++news.toArray++Builtin.zeroCells z.cells (grownCap w (sLen + m) sCap e - (sLen + m))) e)):=by
 have hn:¬ (sLen + m <= sCap):=by omega
 have h63':¬ (9223372036854775807 < ((sLen:Int) + (m:Int))):=by omega
 have h48':¬ (281474976710656 < Builtin.nextslicecap (sLen + m) sCap * i.bytes):=by omega
 rcases srcT_spec hu with hd | ⟨e2,hd⟩ <;> simp [Builtin.append_,run_underlying ht,run_underlying hd,sizeOf,typeInfo,zeroValue,hi,hz,hxl,hn,h63',h48',Question.forced,hxf,hof,newRow,grownCap]
 all_goals
  congr 2
  apply Array.ext'
  simp [zyI]
theorem zeI {n m sz cap:Nat} {e:TypeId} {z:Value} {olds news xo xn:List Value} (hr:LR L (olds++news) (xo++xn)) (hl:(olds++news).length = (n + m) * sz) (hone:(olds++news).all (·.oneCell') = true) (hsm:zq ((n + m) * sz) = true)
  (hz:z.cells.size = sz) {fz:Nat × Nat} (hfz:fz = (0,0) ∨ fz = (1,0)) (_need:n + m <= 4294967296) :
  Laid L w (w.drew.alloc (.cells (xo.toArray++xn.toArray++Builtin.zeroCells z.cells (grownCap w (n + m) cap e - (n + m))) e)) (.cells ((n + m) * sz) (T.setRow .nil 0 (olds++news)) e (some sz) fz)
   (fun b=>.slice (some ⟨b,0,none⟩) (n + m) (2 * (n + m) + 1)) (.slice (some ⟨w.heap.size,0,none⟩) (n + m) (grownCap w (n + m) cap e)):=by
 have hge:=grownCap_ge w (n + m) cap e
 have hxl:(xo++xn).length = (n + m) * sz:=by rw [<- hr.1]; exact hl
 refine ⟨⟨by simp [World.alloc,World.drew,-World.alloc_eq,-World.drew_eq],fun k hk=>?_,rfl,rfl,rfl⟩,grownCap w (n + m) cap e - (n + m),fun L' b hl' hb=>⟨?_,?_⟩⟩
 ·simp only [World.alloc,World.drew]; rw [Array.getElem?_push_lt hk,zyK hk]
 ·refine ⟨_,(0,0),by simp [World.alloc,World.drew,-World.alloc_eq,-World.drew_eq]; rfl,?_,?_,fun i hi=>?_⟩
  ·rcases hfz with rfl | rfl
   ·exact .inl ⟨rfl,rfl⟩
   ·exact .inr (.inl ⟨rfl,.inl (zyF _)⟩)
  ·simp only [Array.size_append,List.size_toArray]
   have h2:(Builtin.zeroCells z.cells (grownCap w (n + m) cap e - (n + m))).size = (grownCap w (n + m) cap e - (n + m)) * sz:=by rw [size_zeroCells,hz]
   simp only [zyQ] at hxl ⊢
   rw [h2]; omega
  ·have hi':i < (olds++news).length:=by omega
   obtain ⟨x,q1,q2⟩:=hr.get (zys hi')
   refine ⟨_,x,?_,?_,q2.mono hl',?_⟩
   ·rw [T.get_setRow _ _ _ (by rw [hl]; simpa using hsm),if_pos ⟨Nat.zero_le _,by omega⟩]
    simp
   ·have:i < (xo++xn).length:=by rw [<- hr.1]; exact hi'
    rw [Array.getElem?_append,if_pos (by simpa using this)]
    simpa using q1
   ·rw [q2.oneCell]; exact List.all_eq_true.1 hone _ (List.getElem_mem hi')
 ·have:=VR.slice (o:=0) (len:=n + m) (cap:=2 * (n + m) + 1) hb
  rwa [zbM,show n + m + (grownCap w (n + m) cap e - (n + m)) = grownCap w (n + m) cap e by omega] at this
theorem zH.laid (h:zH w0 G L H w) {w':World} {ob:AObj} {mk:Nat->Value} {x:Value} (hl:Laid L w w' ob mk x) (hs:zq H.nx = true):∃ L',Lam.ext H.nx L L'/\zH w0 G L' (H.push ob) w'/\VR L' (mk H.nx) x:=by
 obtain ⟨hg,e,hk⟩:=hl
 have hn:=h.none_nx
 have h1:=h.push (o:=ob) hs
 have hb:(H.push ob).get H.nx = some ob:=by rw [AH.get_push hs,if_pos rfl]
 have hat:(L.upd H.nx ⟨w.heap.size,0,e⟩) H.nx = some ⟨w.heap.size,0,e⟩:=by unfold Lam.upd; rw [if_pos rfl]
 obtain ⟨k1,k2⟩:=hk (L.upd H.nx ⟨w.heap.size,0,e⟩) H.nx (Lam.le_upd hn) hat
 exact ⟨_,Lam.ext_upd hn,h1.real hb hn h.gnx (by show H.nx < H.nx + 1; omega) hg k1,k2⟩
theorem zH.realAt (h:zH w0 G L H w) {b:Nat} {o:AObj} {p:Pl} (hb:H.get b = some o) (hl:L b = none) (hG:G <= b) (hd:b < H.nx) (hp0:w0.heap.size <= p.b) (hp1:p.b < w.heap.size) (hfree:∀ c o' q,H.get c = some o'->o'.alive = true->L c = some q->q.b ≠ p.b)
  {w':World} (hw:Q3 p.b w w') (ho:Y7 (L.upd b p) w' p o):zH w0 G (L.upd b p) H w':=by
 have hle:L.le (L.upd b p):=Lam.le_upd hl
 have hcase:∀ c q,(L.upd b p) c = some q->(c = b/\q = p) ∨ (c ≠ b/\L c = some q):=fun c q hc=>by
  unfold Lam.upd at hc
  by_cases e:c = b
  ·rw [if_pos e] at hc; cases hc; exact .inl ⟨e,rfl⟩
  ·rw [if_neg e] at hc; exact .inr ⟨e,hc⟩
 refine ⟨fun c o' q h1 h2=>?_,fun c c' o1 o2 q q' h1 h2 a1 a2 h3 h4 he=>?_,fun c q hc=>?_,fun c q hg hc=>?_,fun c q hc=>?_,?_,fun g hg=>?_,h.gnx⟩
 ·rcases hcase c q h2 with ⟨rfl,rfl⟩ | ⟨_,hc⟩
  ·rw [hb] at h1; cases h1; exact ho
  ·cases hal:o'.alive with
   | false=>cases o' <;> first | trivial | simp [AObj.alive] at hal
   | true=>exact (h.obj c o' q h1 hc).mono hle (hw.block _ (hfree c o' q h1 hal hc))
 ·rcases hcase c q h3 with ⟨rfl,rfl⟩ | ⟨n1,hc⟩ <;> rcases hcase c' q' h4 with ⟨rfl,rfl⟩ | ⟨n2,hc'⟩
  ·rfl
  ·exact absurd he.symm (hfree c' o2 q' h2 a2 hc')
  ·exact absurd he (hfree c o1 q h1 a1 hc)
  ·exact h.inj c c' o1 o2 q q' h1 h2 a1 a2 hc hc' he
 ·rcases hcase c q hc with ⟨rfl,_⟩ | ⟨_,hc⟩
  ·exact hd
  ·exact h.dom c q hc
 ·rcases hcase c q hc with ⟨rfl,rfl⟩ | ⟨_,hc⟩
  ·exact hp0
  ·exact h.own c q hg hc
 ·rw [hw.size]
  rcases hcase c q hc with ⟨rfl,rfl⟩ | ⟨_,hc⟩
  ·exact hp1
  ·exact h.lt c q hc
 ·refine ⟨hw.os.trans h.keep.os,hw.tape.trans h.keep.tape,hw.output.trans h.keep.output,by rw [hw.size]; exact h.keep.size,fun k hk=>?_⟩
  rw [hw.block k (by omega)]
  exact h.keep.block k hk
 ·have:g ≠ b:=by omega
  unfold Lam.upd
  rw [if_neg this]
  exact h.glob g hg
theorem cc {α:Type} {c:Bool} {q:Option α} {r:α} (h:(bif c then q else none) = some r):c = true/\q = some r:=by
 cases c
 ·cases h
 ·exact ⟨rfl,h⟩
theorem ble {a b:Nat} (h:Nat.ble a b = true):a <= b:=Nat.le_of_ble_eq_true h
theorem zvv {xs ys:List Value} (h:xs.all (·.oneCell') = true) (k:ys.all (·.oneCell') = true):(xs++ys).all (·.oneCell') = true:=by
 rw [List.all_append,h,k]; rfl
theorem zH.cellsOne (h:zH w0 G L H w) {b off k:Nat} {vs:List Value} (hv:zaT H b off k = some vs) {p:Pl} (hp:L b = some p):vs.all (·.oneCell') = true:=by
 obtain ⟨xs,q1,q2,q3⟩:=ZF h hv hp
 rw [zyS]
 intro v hv
 obtain ⟨i,hi,rfl⟩:=List.getElem_of_mem hv
 obtain ⟨x,r1,r2⟩:=q1.get (zys hi)
 rw [<- r2.oneCell]
 exact (q3 i x r1).2
theorem zkP (h:zH w0 G L H w) {t u ty:TypeId} {s x s' x' v:Value} {H':AH} (hr:zgl P G H t u s x = some (v,H')) (hs:VR L s s') (hx:VR L x x') :
  H.nx <= H'.nx/\∃ y w' L',(Builtin.append_ #[t,u] ty #[s',x']).run P w = .ok y w'/\Lam.ext H.nx L L'/\zH w0 G L' H' w'/\VR L' v y:=by
 unfold zgl at hr
 split at hr
 case h_2=>cases hr
 rename_i e he
 have hu:=qS he
 split at hr
 ·cases hr
 rename_i i hi
 split at hr
 ·cases hr
 rename_i m news hsrc
 obtain ⟨c0,hr⟩:=cc hr
 simp only [zyL] at c0
 obtain ⟨⟨⟨⟨c1,c2⟩,c3⟩,c4⟩,c5⟩:=c0
 have c2:news.length = m * i.size:=zyM c2
 have c3:0 < i.size:=by simpa using c3
 cases hz:i.zero with
 | none=>rw [hz] at c5; cases c5
 | some z =>
 rw [hz] at c5
 simp only [zyL] at c5
 have c5:z.cells.size = i.size:=zyM c5.1
 obtain ⟨xn,s1,s2,s3⟩:=zrk (P:=P) h hsrc hx
 by_cases hm:m = 0
 ·subst hm
  simp only [Nat.beq_refl,cond_true] at hr
  obtain ⟨d0,hr⟩:=cc hr
  simp only [zyO,Prod.mk.injEq] at hr
  obtain ⟨rfl,rfl⟩:=hr
  have hn0:xn = []:=by
   have:=s1.1; rw [c2] at this
   exact zyR (by omega)
  subst hn0
  have hf0:(Builtin.firstCells i.size 0 x').run P w = .ok #[] w:=s3 w rfl
  unfold zv0 at d0
  split at d0
  ·cases hs
   exact ⟨zyF _,_,w,L,run_append_none hu c1 hi (s2 w) hf0 (zyF _),Lam.ext_refl _ L,h,.nils⟩
  ·cases hs with
   | opq a c=>exact ⟨zyF _,_,w,L,run_append_none hu c1 hi (s2 w) hf0 (Nat.zero_le _),Lam.ext_refl _ L,h,.opq a c⟩
  ·rename_i b o n cap _
   cases hs with
   | slice hp =>
    rename_i p
    have d0:=ble d0
    refine ⟨zyF _,_,w,L,run_append_none hu c1 hi (s2 w) hf0 ?_,Lam.ext_refl _ L,h,.slice hp⟩
    cases hq:ZX cap with
    | true=>rw [zay hq]; omega
    | false=>rw [YQ hq]; omega
  ·cases d0
 rw [beqF hm] at hr
 simp only [cond_false] at hr
 split at hr
 ·-- nil
  obtain ⟨d0,hr⟩:=cc hr
  simp only [zyO,Prod.mk.injEq] at hr
  obtain ⟨rfl,rfl⟩:=hr
  simp only [zyL] at d0
  obtain ⟨⟨⟨d1,d2⟩,d3⟩,d4⟩:=d0
  have d1:=ble d1
  have d2:=ble d2
  cases hs
  have hrun:=run_append_new (P:=P) (ty:=ty) (base:=none) (sLen:=0) (sCap:=0) (olds:=[]) (news:=xn) hu c1 hi hz (s2 w) (s3 w.drew rfl) (by simp [Builtin.firstCells]) (by omega) (by omega) (growslice_fits (by omega) (by simpa using d1))
  have hl:=zeI (w:=w) (L:=L) (n:=0) (m:=m) (sz:=i.size) (cap:=0) (e:=e) (z:=z) (olds:=[]) (news:=news) (xo:=[]) (xn:=xn) (by simpa using s1) (by simpa using c2) (by simpa using c4) (by simpa using d3) c5 (fz:=(0,0)) (.inl rfl) (by omega)
  obtain ⟨L',l1,l2,l3⟩:=h.laid hl d4
  exact ⟨Nat.le_succ _,_,_,L',hrun,l1,by simpa using l2,by simpa using l3⟩
 ·rename_i b o n cap _
  split at hr
  ·rename_i nn tr ty' op fz olds hb hold
   cases hs with
   | slice hp =>
   rename_i p
   have hone:=h.cellsOne hold hp
   obtain ⟨xo,o1,o2,o3⟩:=ZF h hold hp
   obtain ⟨k,hk⟩:∃ k,k = cap / 2:=⟨_,rfl⟩
   rw [<- hk] at hr
   have hcap:(ZX cap = true/\zbx cap p.ext = k + p.ext) ∨ (ZX cap = false/\zbx cap p.ext = k):=by
    cases hq:ZX cap with
    | true=>exact .inl ⟨rfl,by rw [zay hq,hk]⟩
    | false=>exact .inr ⟨rfl,by rw [YQ hq,hk]⟩
   by_cases hroom:n + m <= k
   ·rw [show Nat.ble (n + m) k = true by simpa using hroom] at hr
    simp only [cond_true] at hr
    obtain ⟨d0,hr⟩:=cc hr
    simp only [zyO,Prod.mk.injEq] at hr
    obtain ⟨rfl,rfl⟩:=hr
    simp only [zyL] at d0
    obtain ⟨⟨⟨⟨d1,d2⟩,d3⟩,d4⟩,d5⟩:=d0
    obtain ⟨w',q1,q2,_⟩:=h.write (P:=P) hb hp (ble d1) d2 (off:=o + n * i.size) (cs:=news) (xs:=xn) (ble d4) d3 c4 (ble d5) s1
    have hrun:=run_append_room (P:=P) (ty:=ty) (c:=p.b) (o:=p.base + o) (n:=n) (cap:=zbx cap p.ext) (w:=w) hu c1 hi (s2 w) (s3 w rfl) (by rcases hcap with ⟨_,q⟩ | ⟨_,q⟩ <;> omega) (by rw [Nat.add_assoc]; exact q1)
    exact ⟨zyF _,_,w',L,hrun,Lam.ext_refl _ L,q2,.slice hp⟩
   ·have hnr:Nat.ble (n + m) k = false:=by
     cases q:Nat.ble (n + m) k with
     | false=>rfl
     | true=>exact absurd (ble q) hroom
    rw [hnr] at hr
    simp only [cond_false] at hr
    obtain ⟨d0,hr⟩:=cc hr
    simp only [zyL] at d0
    obtain ⟨⟨⟨⟨⟨⟨d1,d2⟩,d3⟩,d4⟩,d5⟩,d6⟩,d7⟩:=d0
    have d1:=ble d1
    have d2:=ble d2
    have d6:olds.length = n * i.size:=zyM d6
    have hlen:(olds++news).length = (n + m) * i.size:=by rw [zyQ,d6,c2,Nat.add_mul]
    have hall:=zvv hone c4
    have hof:∀ c',(Builtin.firstCells i.size n (.slice (some ⟨p.b,p.base + o,none⟩) n c')).run P w.drew = .ok xo.toArray w.drew:=fun c'=>by
     have:=run_loadCells_list (P:=P) w.drew ⟨p.b,p.base + o,none⟩ xo (fun j v hv=>by rw [Addr.add_none]; exact (o3 j v hv).1)
     rw [o2] at this
     simp [Builtin.firstCells,this]
    have hnew:zbx cap p.ext < n + m->∀ fz',fz' = (0,0) ∨ fz' = (1,0)->∃ y w',(Builtin.append_ #[t,u] ty #[.slice (some ⟨p.b,p.base + o,none⟩) n (zbx cap p.ext),x']).run P w = .ok y w' /\
      Laid L w w' (.cells ((n + m) * i.size) (T.setRow .nil 0 (olds++news)) e (some i.size) fz') (fun b=>.slice (some ⟨b,0,none⟩) (n + m) (2 * (n + m) + 1)) y:=fun hlt fz' hfz' =>
     ⟨_,_,run_append_new (P:=P) (ty:=ty) hu c1 hi hz (s2 w) (s3 w.drew rfl) (hof _) hlt (by omega) (growslice_fits hlt d1),zeI (o1.append s1) hlen hall d3 c5 hfz' d2⟩
    rcases hcap with ⟨hop,hcc⟩ | ⟨hop,hcc⟩
    ·rw [hop] at hr
     simp only [cond_true] at hr
     obtain ⟨g0,hr⟩:=cc hr
     simp only [zyO,Prod.mk.injEq] at hr
     obtain ⟨rfl,rfl⟩:=hr
     simp only [zyL,Bool.or_eq_true] at g0
     obtain ⟨⟨⟨⟨⟨g1,g2⟩,g3⟩,g4⟩,g5⟩,g6⟩:=g0
     have hfz:fz = (0,0) ∨ fz = (1,0):=by
      obtain ⟨f1,f2⟩:=fz
      have e2:f2 = 0:=zyM g6
      rcases g5 with g5 | g5
      ·have e1:f1 = 0:=zyM g5
       left; rw [e1,e2]
      ·have e1:f1 = 1:=zyM g5
       right; rw [e1,e2]
     have g2:ty' = e:=zyM g2
     subst g2
     have g4:nn = o + k * i.size:=zyM g4
     cases op with
     | none=>cases g3
     | some sz =>
     have g3:sz = i.size:=zyM g3
     subst g3
     have hkill:=h.kill (b:=b) d5
     by_cases hin:n + m <= k + p.ext
     ·-- in place
      obtain ⟨cur,fr,a1,a2,a3,a4⟩:=h.obj b _ p hb hp
      simp only at a3
      have hnk:n <= k:=ble d7
      have hfit:p.base + o + n * i.size + xn.length <= cur.size:=by
       have e1:xn.length = m * i.size:=by rw [<- s1.1]; exact c2
       have e2:(n + m) * i.size <= (k + p.ext) * i.size:=Nat.mul_le_mul_right _ hin
       rw [Nat.add_mul,Nat.add_mul] at e2
       omega
      have hone':∀ v ∈ xn,v.oneCell' = true:=by
       intro y hy
       obtain ⟨j,hj,rfl⟩:=List.getElem_of_mem hy
       have hj':j < news.length:=by rw [s1.1]; exact hj
       have:=s1.2 j _ _ (zys hj') (zys hj)
       rw [this.oneCell]
       exact List.all_eq_true.1 c4 _ (List.getElem_mem hj')
      have hnf:NF fr (p.base + o + n * i.size) (p.base + o + n * i.size + xn.length):=by
       have:=zvZ (fz:=fz) (fr:=fr) (base:=p.base) (size:=cur.size) (a:=o + n * i.size) (b:=o + n * i.size + xn.length) a2 (by rcases hfz with rfl | rfl <;> simp) (by omega)
       simpa [Nat.add_assoc] using this
      have hst:=Ya P p.b (p.base + o + n * i.size) ty' fr xn 0 cur w a1 hnf (by omega) hone'
      simp only [Nat.add_zero] at hst
      have hrun:=run_append_room (P:=P) (ty:=ty) (c:=p.b) (o:=p.base + o) (n:=n) (cap:=zbx cap p.ext) (w:=w) hu c1 hi (s2 w) (s3 w rfl) (by omega) hst
      have hpush:=hkill.push (o:=.cells ((n + m) * i.size) (T.setRow .nil 0 (olds++news)) ty' (some i.size) fz) (show zq (H.set b .dead).nx = true from d4)
      have hnx:L H.nx = none:=h.none_nx
      have hwr:=Q3.setRow w p.b (cur.toList.take (p.base + o + n * i.size)++xn++cur.toList.drop (p.base + o + n * i.size + xn.length)).toArray
      have hreal:=hpush.realAt (b:=H.nx) (p:=⟨p.b,p.base + o,k + p.ext - (n + m)⟩) (by rw [AH.get_push (show zq (H.set b .dead).nx = true from d4)]; exact if_pos rfl) hnx h.gnx (by show H.nx < H.nx + 1; omega) (h.own b p (ble g1) hp) (h.lt b p hp) (fun c o' q r1 r2 r3 r4=>by
        rw [AH.get_push (show zq (H.set b .dead).nx = true from d4)] at r1
        change (if c = H.nx then _ else _) = _ at r1
        by_cases e1:c = H.nx
        ·subst e1; rw [hnx] at r3; cases r3
        ·rw [if_neg e1,AH.get_set d5] at r1
         by_cases e2:c = b
         ·subst e2; rw [if_pos rfl] at r1; cases r1; simp [AObj.alive] at r2
         ·rw [if_neg e2] at r1
          exact e2 (h.inj c b o' _ q p r1 hb r2 rfl r3 hp r4)) hwr (by
        refine ⟨_,fr,setRow_heap w p.b cur _ ty' fr a1,?_,?_,fun j hj=>?_⟩
        ·rcases hfz with rfl | rfl
         ·rcases a2 with ⟨_,q⟩ | ⟨q,_⟩ | ⟨_,q⟩ | q
          ·exact .inl ⟨rfl,q⟩
          ·cases q
          ·exact .inl ⟨rfl,q⟩
          ·exact absurd q (Nat.not_lt_zero _)
         ·rcases a2 with ⟨q,_⟩ | ⟨_,q⟩ | ⟨_,q⟩ | q
          ·cases q
          ·exact .inr (.inl ⟨rfl,q.imp id fun q=>by simp; omega⟩)
          ·exact .inr (.inl ⟨rfl,.inl (by rw [q]; simp)⟩)
          ·exact absurd q (Nat.not_lt_zero _)
        ·simp only [List.size_toArray,zyQ,List.length_take,List.length_drop,Array.length_toList]
         have e2:(k + p.ext) * i.size = (n + m) * i.size + (k + p.ext - (n + m)) * i.size:=by rw [<- Nat.add_mul]; congr 1; omega
         have e3:(k + p.ext) * i.size = k * i.size + p.ext * i.size:=Nat.add_mul _ _ _
         omega
        ·have hj':j < (olds++news).length:=by omega
         have hol:olds.length = xo.length:=o1.1
         obtain ⟨y,r1,r2⟩:=(o1.append s1).get (zys hj')
         refine ⟨_,y,?_,?_,r2.mono (Lam.le_upd hnx),?_⟩
         ·rw [T.get_setRow _ _ _ (by rw [hlen]; simpa using d3),if_pos ⟨Nat.zero_le _,by omega⟩]
          simp
         ·simp only [List.getElem?_toArray]
          rcases Nat.lt_or_ge j (n * i.size) with jl | jl
          ·rw [zyI,List.getElem?_append_left (by simp; omega),List.getElem?_take,if_pos (by omega)]
           rw [List.getElem?_append_left (by omega)] at r1
           have:=(o3 j y r1).1
           simp only [World.cell?,a1] at this
           simpa [Nat.add_assoc] using this
          ·rw [zyI,List.getElem?_append_right (by simp; omega)]
           rw [List.getElem?_append_right (by omega)] at r1
           have hjx:j - xo.length < xn.length:=(List.getElem?_eq_some_iff.1 r1).1
           rw [List.getElem?_append_left (by simp; omega)]
           rw [<- r1]
           congr 1
           simp; omega
         ·rw [r2.oneCell]; exact List.all_eq_true.1 hall _ (List.getElem_mem hj'))
      refine ⟨Nat.le_succ _,_,_,_,hrun,Lam.ext_upd hnx,hreal,?_⟩
      have hv:=VR.slice (L:=L.upd H.nx ⟨p.b,p.base + o,k + p.ext - (n + m)⟩) (b:=H.nx) (o:=0) (len:=n + m) (cap:=2 * (n + m) + 1) (p:=⟨p.b,p.base + o,k + p.ext - (n + m)⟩) (by unfold Lam.upd; rw [if_pos rfl])
      rw [zbM] at hv
      simp only [show n + m + (k + p.ext - (n + m)) = zbx cap p.ext by rw [hcc]; omega] at hv
      simpa using hv
     ·obtain ⟨y,w',r1,r2⟩:=hnew (by omega) fz hfz
      obtain ⟨L',l1,l2,l3⟩:=hkill.laid (L:=L) r2 d4
      exact ⟨Nat.le_succ _,y,w',L',r1,l1,l2,l3⟩
    ·rw [hop] at hr
     simp only [cond_false] at hr
     simp only [zyO,Prod.mk.injEq] at hr
     obtain ⟨rfl,rfl⟩:=hr
     obtain ⟨y,w',r1,r2⟩:=hnew (by omega) (0,0) (.inl rfl)
     obtain ⟨L',l1,l2,l3⟩:=h.laid r2 d4
     exact ⟨Nat.le_succ _,y,w',L',r1,l1,l2,l3⟩
  ·cases hr
 ·cases hr
end
end Go.Run
noncomputable section
namespace Go.Run
open Go.RowKit
section
variable {P:Program} {w0:World} {G:Nat} {L:Lam} {H:AH} {w:World}
def zaZ (P:Program) (G:Nat) (H:AH) (t:TypeId) (m k v:Value):Option AH :=
 match mapT P t with
 | none=>none
 | some (kt,_)=>match m with
  | .map (some b)=>match H.get b with
   | some (.map es clock)=>cond (Nat.ble G b && zq b) (match yu P (Instr.checkKey false 10000 kt k),zcD P kt k es with
    | some _,some (some j)=>match es[j]? with
     | some e=>cond (Instr.sameBits 10000 e.key k) (some (H.set b (.map (es.set j { e with key:=k,val:=v }) clock))) none
     | none=>none
    | some _,some none=>some (H.set b (.map (es++[{ key:=k,val:=v,born:=clock }]) (clock + 1)))
    | _,_=>none) none
   | _=>none
  | _=>none
theorem MR.set {es es':List MapEntry} (h:MR L es es') {j:Nat} {e e':MapEntry} (he:ER L e e'):MR L (es.set j e) (es'.set j e') :=
 ⟨by simp [h.1],fun i a b h1 h2=>by
  rw [List.getElem?_set] at h1 h2
  by_cases q:j = i
  ·subst q
   simp only [if_true] at h1 h2
   split at h1
   ·rw [if_pos (by rw [<- h.1]; assumption)] at h2
    cases h1; cases h2; exact he
   ·cases h1
  ·rw [if_neg q] at h1 h2; exact h.2 i a b h1 h2⟩
theorem MR.push {es es':List MapEntry} (h:MR L es es') {e e':MapEntry} (he:ER L e e'):MR L (es++[e]) (es'++[e']) :=
 ⟨by simp [h.1],fun i a b h1 h2=>by
  rw [List.getElem?_append] at h1 h2
  rw [h.1] at h1
  split at h1
  ·rename_i hi; rw [if_pos hi] at h2; exact h.2 i a b h1 h2
  ·rename_i hi
   rw [if_neg hi] at h2
   cases hq:i - es'.length with
   | zero=>rw [hq] at h1 h2; simp at h1 h2; subst h1; subst h2; exact he
   | succ n=>rw [hq] at h1; simp at h1⟩
theorem qF {r:Nat} {o o':Obj} (h:w.heap[r]? = some o) (hc:(match o with | .cells ..=>false | _=>true) = true):(setObj r o').run P w = .ok () { w with heap:=w.heap.setIfInBounds r o' }:=by
 cases o <;> first | (simp at hc; done) | simp [setObj,Sem.run,h]
theorem Q3.setObj (w:World) (b:Nat) (o:Obj):Q3 b w { w with heap:=w.heap.setIfInBounds b o } :=
 ⟨by simp,fun k hk=>by simp [Ne.symm hk],rfl,rfl,rfl⟩
theorem zaz {b:Nat} {o o':Obj} (h:w.heap[b]? = some o):({ w with heap:=w.heap.setIfInBounds b o' }:World).heap[b]? = some o':=by
 have:b < w.heap.size:=(Array.getElem?_eq_some_iff.1 h).1
 simp [this]
theorem zdQ (h:zH w0 G L H w) {t:TypeId} {m k v m' k' v':Value} {H':AH} (hr:zaZ P G H t m k v = some H') (hm:VR L m m') (hk:VR L k k') (hv:VR L v v'):∃ w',(Instr.mapUpdate t m' k' v').run P w = .ok () w'/\zH w0 G L H' w':=by
 unfold zaZ at hr
 split at hr
 ·cases hr
 ·rename_i kt et ht
  have hu:=mapT_spec ht
  split at hr
  ·rename_i b
   split at hr
   ·rename_i es clock hb
    obtain ⟨c0,hr⟩:=cc hr
    simp only [zyL] at c0
    cases hm with
    | map hp =>
     rename_i p
     obtain ⟨es',h1,h2⟩:=h.obj b _ p hb hp
     have hset:∀ es2 es2' c2,MR L es2 es2'.toList->zH w0 G L (H.set b (.map es2 c2)) { w with heap:=w.heap.setIfInBounds p.b (.map es2' c2) }:=fun es2 es2' c2 hm2=>by
      have hw:=Q3.setObj w p.b (.map es2' c2)
      exact h.upd hb rfl hp (ble c0.1) c0.2 hw.block hw.size hw.os hw.tape hw.output ⟨es2',zaz h1,hm2⟩
     split at hr
     ·rename_i u j hck hf
      obtain ⟨rfl,q1,e,e',q2,q3,q4,q5⟩:=ZG hf hk h2 w
      rw [q2] at hr
      simp only at hr
      obtain ⟨c1,hr⟩:=cc hr
      cases hr
      have hck':=qd _ hck w
      have hfl:flat k' = true:=by
       unfold zcD at hf
       obtain ⟨c2,_⟩:=cc hf
       simp only [zyL] at c2
       exact c2.1
      have hkey:e'.key = e.key:=by
       unfold zcD at hf
       obtain ⟨c2,_⟩:=cc hf
       simp only [zyL,zyS] at c2
       exact q4.key.eq_flat (c2.2 e (List.mem_of_getElem? q2))
      have hj:es'[j]? = some e':=by simpa using q3
      refine ⟨_,?_,hset (es.set j { e with key:=k',val:=v }) (es'.modify j fun e=>{ e with key:=k',val:=v' }) clock ?_⟩
      ·simp [Instr.mapUpdate,run_underlying hu,yz h1 rfl,hck',q5,Instr.keyThatStays,hj,hkey,c1,qF h1 rfl]
      ·have:(es'.modify j fun e=>{ e with key:=k',val:=v' }).toList = es'.toList.set j { e' with key:=k',val:=v' }:=by
        apply List.ext_getElem?
        intro i
        rw [Array.getElem?_toList,Array.getElem?_modify,List.getElem?_set,Array.getElem?_toList]
        by_cases q:j = i
        ·subst q
         have:j < es'.size:=(Array.getElem?_eq_some_iff.1 hj).1
         have hje:es'[j] = e':=(Array.getElem?_eq_some_iff.1 hj).2
         simp [this,hje]
        ·simp [q]
       rw [this]
       exact h2.set ⟨hk,hv,q4.born⟩
     ·rename_i u hck hf
      obtain ⟨rfl,q1,q5⟩:=ZG hf hk h2 w
      cases hr
      have hck':=qd _ hck w
      refine ⟨_,?_,hset (es++[{ key:=k',val:=v,born:=clock }]) (es'.push { key:=k',val:=v',born:=clock }) (clock + 1) (by
       have:=h2.push (e:={ key:=k',val:=v,born:=clock }) (e':={ key:=k',val:=v',born:=clock }) ⟨hk,hv,rfl⟩
       simpa using this)⟩
      simp [Instr.mapUpdate,run_underlying hu,yz h1 rfl,hck',q5,qF h1 rfl]
     ·cases hr
   ·cases hr
  ·cases hr
def zwR (i:Nat) (r:Int):Value:=.tuple #[.bool true,goInt i,.int .i32 r]
def zhp (G:Nat) (H:AH) (it:Value) (isString:Bool):List (Value × AH) :=
 match it with
 | .pointer (some ⟨b,0,none⟩)=>match H.get b,isString with
  | some (.siter s pos),true=>cond (Nat.ble G b && zq b) (cond (Nat.blt pos s.size) [(zwR pos (Utf8.decode s pos).1,H.set b (.siter s (pos + (Utf8.decode s pos).2)))] [(.tuple #[.bool false],H)]) []
  | some (.miter none _ _ _),false=>[(.tuple #[.bool false],H)]
  | some (.miter (some m) since seen last),false=>match H.get m with
   | some (.map es clock)=>cond (Nat.ble G b && zq b && !(!seen.isEmpty && !es.isEmpty && es.all (fun e=>Nat.ble last e.born)))
    (let left:=es.filter fun e=>!seen.toList.contains e.born
     let old:=left.filter fun e=>Nat.blt e.born since
     let new:=left.filter fun e=>Nat.ble since e.born
     (cond old.isEmpty [(.tuple #[.bool false],H)] [])++(old++new).map fun e=>(.tuple #[.bool true,e.key,e.val],H.set b (.miter (some m) since (seen.push e.born) clock))) []
   | _=>[]
  | _,_=>[]
 | _=>[]
theorem MR.filter {p:Nat->Bool}:∀ {es es':List MapEntry},MR L es es'->MR L (es.filter fun e=>p e.born) (es'.filter fun e=>p e.born)
 | [],es',h=>by
  have:es' = []:=zyR (by simpa using h.1.symm)
  subst this; exact h
 | e :: es,[],h=>by have:=h.1; simp at this
 | e :: es,e' :: es',h=>by
  have h0:=h.2 0 e e' (by simp) (by simp)
  have ht:MR L es es':=⟨by have:=h.1; simpa using this,fun i a b h1 h2=>h.2 (i + 1) a b (by simpa using h1) (by simpa using h2)⟩
  have ih:=MR.filter (p:=p) ht
  simp only [List.filter_cons,h0.born]
  cases p e.born with
  | false=>exact ih
  | true =>
   refine ⟨by simp [ih.1],fun i a b h1 h2=>?_⟩
   cases i with
   | zero=>simp at h1 h2; subst h1; subst h2; exact h0
   | succ i=>simp at h1 h2; exact ih.2 i a b h1 h2
theorem MR.append {es es' fs fs':List MapEntry} (h:MR L es es') (k:MR L fs fs'):MR L (es++fs) (es'++fs') :=
 ⟨by simp [h.1,k.1],fun i a b h1 h2=>by
  rw [List.getElem?_append] at h1 h2
  rw [h.1] at h1
  split at h1
  ·rename_i hi; rw [if_pos hi] at h2; exact h.2 i a b h1 h2
  ·rename_i hi; rw [if_neg hi] at h2; exact k.2 _ a b h1 h2⟩
theorem MR.all {p:Nat->Bool}:∀ {es es':List MapEntry},MR L es es'->(es'.all fun e=>p e.born) = es.all fun e=>p e.born
 | [],es',h=>by
  have:es' = []:=zyR (by simpa using h.1.symm)
  subst this; rfl
 | e :: es,[],h=>by have:=h.1; simp at this
 | e :: es,e' :: es',h=>by
  have h0:=h.2 0 e e' (by simp) (by simp)
  have ht:MR L es es':=⟨by have:=h.1; simpa using this,fun i a b h1 h2=>h.2 (i + 1) a b (by simpa using h1) (by simpa using h2)⟩
  simp only [List.all_cons,h0.born,MR.all (p:=p) ht]
theorem ziH (n:Nat) (hn:0 < n) (w:World):∃ i w',i < n/\(choose (.mapNext n)).run P w = .ok i w'/\w'.heap = w.heap/\w'.os = w.os/\w'.tape = w.tape/\w'.output = w.output:=by
 by_cases h:n <= 1
 ·exact ⟨0,w,hn,by simp [choose,Sem.run,Question.forced,h],rfl,rfl,rfl,rfl⟩
 ·refine ⟨w.tape w.drawn (.mapNext n) % n,{ w with drawn:=w.drawn + 1 },Nat.mod_lt _ hn,?_,rfl,rfl,rfl,rfl⟩
  simp [choose,Sem.run,Question.forced,h,Question.cut]
theorem VR.triple {a a' b b' c c':Value} (h1:VR L a a') (h2:VR L b b') (h3:VR L c c'):VR L (.tuple #[a,b,c]) (.tuple #[a',b',c']):=by
 have:=(((LR.nil L).cons h3).cons h2).cons h1
 exact .tuple this.toArray.1 this.toArray.2
theorem zoV (h:zH w0 G L H w) {it it':Value} {s:Bool} {ty:TypeId} (hl:zhp G H it s ≠ []) (hit:VR L it it'):∃ v H',(v,H') ∈ zhp G H it s/\∃ x w',(Instr.next it' s ty).run P w = .ok x w'/\zH w0 G L H' w'/\VR L v x:=by
 generalize hq:zhp G H it s = l at hl
 unfold zhp at hq
 have over:∀ {L:Lam},VR L (.tuple #[.bool false]) (.tuple #[.bool false]):=VR.refl_flat rfl
 split at hq
 ·rename_i b
  cases hit with
  | ptr hp =>
   rename_i p
   split at hq
   ·rename_i str pos hb
    obtain ⟨hb0,hb1⟩:=h.obj b _ p hb hp
    cases c0:(Nat.ble G b && zq b) with
    | false=>rw [c0] at hq; exact (hl hq.symm).elim
    | true =>
     rw [c0] at hq
     simp only [cond_true] at hq
     simp only [zyL] at c0
     rw [hb0]
     cases hlt:Nat.blt pos str.size with
     | true =>
      rw [hlt] at hq
      subst hq
      have hlt:pos < str.size:=by simpa using hlt
      have hw:=Q3.setObj w p.b (.stringIter str (pos + (Utf8.decode str pos).2))
      refine ⟨_,_,List.mem_singleton.2 rfl,zwR pos (Utf8.decode str pos).1,_,?_,h.upd hb rfl hp (ble c0.1) c0.2 hw.block hw.size hw.os hw.tape hw.output ⟨hb0,zaz hb1⟩,VR.refl_flat rfl⟩
      simp [Instr.next,yz hb1 rfl,hlt,qF hb1 rfl,zwR]
     | false =>
      rw [hlt] at hq
      subst hq
      have hlt:¬ pos < str.size:=by
       intro q
       rw [show Nat.blt pos str.size = true by simpa using q] at hlt; cases hlt
      exact ⟨_,_,List.mem_singleton.2 rfl,.tuple #[.bool false],w,by simp [Instr.next,yz hb1 rfl,hlt],h,over⟩
   ·rename_i since seen last hb
    obtain ⟨hb0,m',hb1,hb2⟩:=h.obj b _ p hb hp
    cases hb2
    subst hq
    rw [hb0]
    exact ⟨_,_,List.mem_singleton.2 rfl,.tuple #[.bool false],w,by simp [Instr.next,yz hb1 rfl],h,over⟩
   ·rename_i m since seen last hb
    obtain ⟨hb0,m',hb1,hb2⟩:=h.obj b _ p hb hp
    cases hb2 with
    | map hpm =>
     rename_i pm
     split at hq
     ·rename_i es clock hm
      obtain ⟨es',hm1,hm2⟩:=h.obj m _ pm hm hpm
      cases c0:(Nat.ble G b && zq b && !(!seen.isEmpty && !es.isEmpty && es.all (fun e=>Nat.ble last e.born))) with
      | false=>rw [c0] at hq; exact (hl hq.symm).elim
      | true =>
       rw [c0] at hq
       simp only [cond_true] at hq
       simp only [zyL] at c0
       rw [hb0]
       have hleft:=hm2.filter (p:=fun n=>!seen.toList.contains n)
       have hold:=hleft.filter (p:=fun n=>Nat.blt n since)
       have hnew:=hleft.filter (p:=fun n=>Nat.ble since n)
       generalize e1:(List.filter (fun e=>Nat.blt e.born since) (List.filter (fun e=>!seen.toList.contains e.born) es)) = old at hq hold
       generalize e2:(List.filter (fun e=>Nat.ble since e.born) (List.filter (fun e=>!seen.toList.contains e.born) es)) = new at hq hnew
       generalize e1':(List.filter (fun e=>Nat.blt e.born since) (List.filter (fun e=>!seen.toList.contains e.born) es'.toList)) = old' at hold
       generalize e2':(List.filter (fun e=>Nat.ble since e.born) (List.filter (fun e=>!seen.toList.contains e.born) es'.toList)) = new' at hnew
       have hall:=hold.append hnew
       have hoe:old'.isEmpty = old.isEmpty:=by
        have:=hold.1
        cases old <;> cases old' <;> simp_all
       let cands:List (Option MapEntry):=(if old'.isEmpty then [none] else [])++(old'++new').map some
       have hcl:0 < cands.length:=by
        simp only [cands,zyQ,List.length_map]
        cases hq2:old' with
        | nil=>simp; omega
        | cons a b=>simp; omega
       obtain ⟨ix,w1,hix,hch,v1,v2,v3,v4⟩:=ziH (P:=P) cands.length hcl w
       have h1:=h.same v1 v2 v3 v4
       have hemp:es'.isEmpty = es.isEmpty:=by
        have:=hm2.1
        rw [<- Array.isEmpty_toList]
        cases es <;> cases hc:es'.toList <;> simp_all
       have hcond:(!seen.isEmpty && !es'.isEmpty && es'.all (fun e=>decide (e.born ≥ last))) = false:=by
        have ha:es'.all (fun e=>decide (e.born ≥ last)) = es.all (fun e=>Nat.ble last e.born):=by
         rw [<- hm2.all (p:=fun n=>Nat.ble last n),<- Array.all_toList]
         congr 1
         funext e
         rw [Bool.eq_iff_iff]; simp
        rw [hemp,ha]
        cases hx:(!seen.isEmpty && !es.isEmpty && es.all (fun e=>Nat.ble last e.born)) with
        | false=>rfl
        | true=>rw [hx] at c0; exact absurd c0.2 (by simp)
       have eo:(es'.filter (fun e=>!seen.contains e.born)).filter (fun e=>decide (e.born < since)) = old'.toArray:=by
        rw [<- e1']
        apply Array.ext'
        rw [Array.toList_filter,Array.toList_filter]
        congr 1
        ·funext e; rw [Bool.eq_iff_iff]; simp
        ·congr 1
         funext e; simp
       have en:(es'.filter (fun e=>!seen.contains e.born)).filter (fun e=>decide (e.born ≥ since)) = new'.toArray:=by
        rw [<- e2']
        apply Array.ext'
        rw [Array.toList_filter,Array.toList_filter]
        congr 1
        ·funext e; rw [Bool.eq_iff_iff]; simp
        ·congr 1
         funext e; simp
       have hc':(if old'.toArray.isEmpty then #[none] else #[])++(old'.toArray++new'.toArray).map some = cands.toArray:=by
        apply Array.ext'
        simp only [cands]
        cases old' <;> simp
       have hcsz:cands.toArray.size = cands.length:=by simp
       have key:(Instr.next (.pointer (some ⟨p.b,0,none⟩)) false ty).run P w = (match cands.toArray[ix]? with
         | some (some e)=>(do setObj p.b (.mapIter (some pm.b) since (seen.push e.born) clock); pure (.tuple #[.bool true,e.key,e.val]):Sem Value)
         | some none=>pure (.tuple #[.bool false])
         | none => stuck "Next: no such candidate").run P w1 := by
        simp only [Instr.next,Sem.run_bind,yz hb1 rfl,yz hm1 rfl,Result.andThen_ok]
        rw [if_neg (by rw [hcond]; simp),eo,en,hc',hcsz,Sem.run_bind,hch]
        rfl
       rw [key]
       have some_case:∀ (j:Nat) (e':MapEntry),(old'++new')[j]? = some e'->cands.toArray[ix]? = some (some e') ->
         ∃ v H',(v,H') ∈ l/\∃ x w',(match cands.toArray[ix]? with
         | some (some e)=>(do setObj p.b (.mapIter (some pm.b) since (seen.push e.born) clock); pure (.tuple #[.bool true,e.key,e.val]):Sem Value)
         | some none=>pure (.tuple #[.bool false])
         | none => stuck "Next: no such candidate").run P w1 = .ok x w' /\ zH w0 G L H' w' /\ VR L v x := by
        intro j e' hj hc
        rw [hc]
        have hlt:j < (old++new).length:=by rw [hall.1]; exact (List.getElem?_eq_some_iff.1 hj).1
        have her:=hall.2 j _ _ (zys hlt) hj
        have hb1':w1.heap[p.b]? = some (.mapIter (some pm.b) since seen last):=by rw [v1]; exact hb1
        have hw:=Q3.setObj w1 p.b (.mapIter (some pm.b) since (seen.push e'.born) clock)
        refine ⟨.tuple #[.bool true,(old++new)[j].key,(old++new)[j].val],H.set b (.miter (some m) since (seen.push (old++new)[j].born) clock),?_,.tuple #[.bool true,e'.key,e'.val],{ w1 with heap:=w1.heap.setIfInBounds p.b (.mapIter (some pm.b) since (seen.push e'.born) clock) },?_,h1.upd hb rfl hp (ble c0.1.1) c0.1.2 hw.block hw.size hw.os hw.tape hw.output (o':=.miter (some m) since (seen.push (old++new)[j].born) clock) ⟨hb0,some pm.b,by rw [<- her.born]; exact zaz hb1',.map hpm⟩,(VR.bool true).triple her.key her.val⟩
        ·rw [<- hq,List.mem_append]
         right
         rw [List.mem_map]
         exact ⟨(old++new)[j],List.getElem_mem hlt,rfl⟩
        ·simp [qF hb1' rfl]
       cases hoi:old'.isEmpty with
       | true =>
        have hoi':old.isEmpty = true:=by rw [<- hoe]; exact hoi
        have hcd:cands = none :: (old'++new').map some:=by simp only [cands,hoi]; rfl
        cases ix with
        | zero =>
         have:cands.toArray[0]? = some none:=by rw [hcd]; simp
         rw [this]
         exact ⟨.tuple #[.bool false],H,by rw [<- hq,hoi']; simp,.tuple #[.bool false],w1,by simp,h1,over⟩
        | succ j =>
         have hj:j < (old'++new').length:=by rw [hcd] at hix; simpa using hix
         exact some_case j _ (zys hj) (by rw [hcd,List.getElem?_toArray,List.getElem?_cons_succ,List.getElem?_map,zys hj]; rfl)
       | false =>
        have hcd:cands = (old'++new').map some:=by simp only [cands,hoi]; rfl
        have hj:ix < (old'++new').length:=by rw [hcd] at hix; simpa using hix
        exact some_case ix _ (zys hj) (by rw [hcd,List.getElem?_toArray,List.getElem?_map,zys hj]; rfl)
     ·exact (hl hq.symm).elim
   ·exact (hl hq.symm).elim
 ·exact (hl hq.symm).elim
def zkQ (H:AH) (it:Value):Option Value :=
 match it with
 | .pointer (some ⟨b,0,none⟩)=>match H.get b with
  | some (.miter (some m) _ seen stepped)=>match seen.back?,H.get m with
   | some stamp,some (.map es clock)=>cond (Nat.beq clock stepped) (match es.find? (fun e=>e.born == stamp) with
    | some e=>some (.tuple #[e.key,e.val])
    | none=>none) none
   | _,_=>none
  | _=>none
 | _=>none
theorem MR.find {p:Nat->Bool}:∀ {es es':List MapEntry} {e:MapEntry},MR L es es'->es.find? (fun e=>p e.born) = some e->∃ e',es'.find? (fun e=>p e.born) = some e'/\ER L e e'
 | [],_,_,_,h=>by simp at h
 | e :: es,[],_,h,_=>by have:=h.1; simp at this
 | e :: es,e' :: es',a,h,hf=>by
  have h0:=h.2 0 e e' (by simp) (by simp)
  have ht:MR L es es':=⟨by have:=h.1; simpa using this,fun i a b h1 h2=>h.2 (i + 1) a b (by simpa using h1) (by simpa using h2)⟩
  simp only [List.find?_cons,h0.born] at hf ⊢
  cases hp:p e.born with
  | true=>rw [hp] at hf; simp only [zyO] at hf; subst hf; exact ⟨e',rfl,h0⟩
  | false=>rw [hp] at hf; exact MR.find ht hf
theorem cc' {α:Type} {c:Bool} {q:Option α} {r:α} (h:(bif c then q else none) = some r):c = true/\q = some r:=cc h
theorem zmY (h:zH w0 G L H w) {it it' v:Value} (hv:zkQ H it = some v) (hit:VR L it it'):∃ x,(Instr.entry it').run P w = .ok x w/\VR L v x:=by
 unfold zkQ at hv
 split at hv
 ·rename_i b
  split at hv
  ·rename_i m since seen stepped hb
   split at hv
   ·rename_i stamp es clock hs hm
    have c0:clock = stepped:=zyM (cc' hv).1
    replace hv:=(cc' hv).2
    subst c0
    split at hv
    ·rename_i e he
     cases hv
     cases hit with
     | ptr hp =>
      rename_i p
      obtain ⟨hb0,m',hb1,hb2⟩:=h.obj b _ p hb hp
      cases hb2 with
      | map hpm =>
       rename_i pm
       obtain ⟨es',hm1,hm2⟩:=h.obj m _ pm hm hpm
       obtain ⟨e',q1,q2⟩:=hm2.find (p:=fun n=>n == stamp) he
       have q1':es'.find? (fun e=>e.born == stamp) = some e':=by
        rw [<- Array.find?_toList]; exact q1
       rw [hb0]
       refine ⟨.tuple #[e'.key,e'.val],?_,q2.key.pair q2.val⟩
       simp [Instr.entry,yz hb1 rfl,yz hm1 rfl,hs,q1']
    ·cases hv
   ·cases hv
  ·cases hv
 ·cases hv
end
end Go.Run
noncomputable section
namespace Go.Run
open Go.RowKit
section
variable {P:Program} {w0:World} {G:Nat} {L:Lam} {H:AH} {w:World}
def Qo (P:Program) (G:Nat) (H:AH) (t:TypeId) (m k:Value):Option (Value × AH) :=
 match mapT P t with
 | none=>none
 | some (kt,et)=>match m with
  | .map (some b)=>match H.get b with
   | some (.map es clock)=>cond (Nat.ble G b && zq b) (match yu P (Instr.checkKey false 10000 kt k),zcD P kt k es with
    | some _,some (some j)=>match es[j]? with
     | some e=>cond (Instr.sameBits 10000 e.key k) (some (.tuple #[e.val,goInt e.born],H.set b (.map (es.set j { e with key:=k }) clock))) none
     | none=>none
    | some _,some none=>match zeroT P et with
     | some z=>some (.tuple #[z,goInt clock],H.set b (.map (es++[{ key:=k,val:=z,born:=clock }]) (clock + 1)))
     | none=>none
    | _,_=>none) none
   | _=>none
  | _=>none
def Yf (G:Nat) (H:AH) (m s v:Value):Option AH :=
 match m,s with
 | .map (some b),.int _ (.ofNat n)=>match H.get b with
  | some (.map es clock)=>cond (Nat.ble G b && zq b) (match es.findIdx? (fun e=>Nat.beq e.born n) with
   | some j=>match es[j]? with
    | some e=>some (H.set b (.map (es.set j { e with val:=v }) clock))
    | none=>none
   | none=>none) none
  | _=>none
 | _,_=>none
def zck (P:Program) (G:Nat) (H:AH) (t:TypeId) (m k:Value):Option AH :=
 match mapT P t with
 | none=>none
 | some (kt,_)=>match m with
  | .map (some b)=>match H.get b with
   | some (.map es clock)=>cond (Nat.ble G b && zq b) (match zcD P kt k es with
    | some (some j)=>some (H.set b (.map (es.eraseIdx j) clock))
    | some none=>some (H.set b (.map es clock))
    | none=>none) none
   | _=>none
  | _=>none
theorem MR.findIdx {p:Nat->Bool}:∀ {es es':List MapEntry},MR L es es'->es'.findIdx? (fun e=>p e.born) = es.findIdx? (fun e=>p e.born)
 | [],es',h=>by
  have:es' = []:=zyR (by simpa using h.1.symm)
  subst this; rfl
 | e :: es,[],h=>by have:=h.1; simp at this
 | e :: es,e' :: es',h=>by
  have h0:=h.2 0 e e' (by simp) (by simp)
  have ht:MR L es es':=⟨by have:=h.1; simpa using this,fun i a b h1 h2=>h.2 (i + 1) a b (by simpa using h1) (by simpa using h2)⟩
  rw [List.findIdx?_cons,List.findIdx?_cons,MR.findIdx ht,h0.born]
theorem MR.eraseIdx {es es':List MapEntry} (h:MR L es es') (j:Nat):MR L (es.eraseIdx j) (es'.eraseIdx j) :=
 ⟨by simp only [List.length_eraseIdx,h.1],fun i a b h1 h2=>by
  rw [List.getElem?_eraseIdx] at h1 h2
  split at h1
  ·rename_i q; rw [if_pos q] at h2; exact h.2 i a b h1 h2
  ·rename_i q; rw [if_neg q] at h2; exact h.2 (i + 1) a b h1 h2⟩
theorem toList_modify (es:Array MapEntry) {j:Nat} {e:MapEntry} (hj:es[j]? = some e) (f:MapEntry->MapEntry):(es.modify j f).toList = es.toList.set j (f e):=by
 apply List.ext_getElem?
 intro i
 rw [Array.getElem?_toList,Array.getElem?_modify,List.getElem?_set,Array.getElem?_toList]
 by_cases q:j = i
 ·subst q
  have:j < es.size:=(Array.getElem?_eq_some_iff.1 hj).1
  have hje:es[j] = e:=(Array.getElem?_eq_some_iff.1 hj).2
  simp [this,hje]
 ·simp [q]
theorem zH.setMap (h:zH w0 G L H w) {b:Nat} {es:List MapEntry} {clock:Nat} {p:Pl} {es':Array MapEntry} (hb:H.get b = some (.map es clock)) (hp:L b = some p) (hG:G <= b) (hs:zq b = true) (h1:w.heap[p.b]? = some (.map es' clock))
  {es2:List MapEntry} {es2':Array MapEntry} {c2:Nat} (hm:MR L es2 es2'.toList):zH w0 G L (H.set b (.map es2 c2)) { w with heap:=w.heap.setIfInBounds p.b (.map es2' c2) }:=by
 have hw:=Q3.setObj w p.b (.map es2' c2)
 exact h.upd hb rfl hp hG hs hw.block hw.size hw.os hw.tape hw.output ⟨es2',zaz h1,hm⟩
theorem zhq (h:zH w0 G L H w) {t:TypeId} {m k v m' k':Value} {H':AH} (hr:Qo P G H t m k = some (v,H')) (hm:VR L m m') (hk:VR L k k'):∃ x w',(Instr.mapEntry t m' k').run P w = .ok x w'/\VR L v x/\zH w0 G L H' w':=by
 unfold Qo at hr
 split at hr
 ·cases hr
 ·rename_i kt et ht
  have hu:=mapT_spec ht
  split at hr
  ·rename_i b
   split at hr
   ·rename_i es clock hb
    obtain ⟨c0,hr⟩:=cc hr
    simp only [zyL] at c0
    cases hm with
    | map hp =>
     rename_i p
     obtain ⟨es',h1,h2⟩:=h.obj b _ p hb hp
     split at hr
     ·rename_i u j hck hf
      obtain ⟨rfl,q1,e,e',q2,q3,q4,q5⟩:=ZG hf hk h2 w
      rw [q2] at hr
      simp only at hr
      obtain ⟨c1,hr⟩:=cc hr
      cases hr
      have hck':=qd _ hck w
      have hkey:e'.key = e.key:=by
       unfold zcD at hf
       obtain ⟨c2,_⟩:=cc hf
       simp only [zyL,zyS] at c2
       exact q4.key.eq_flat (c2.2 e (List.mem_of_getElem? q2))
      have hj:es'[j]? = some e':=by simpa using q3
      refine ⟨.tuple #[e'.val,goInt e.born],_,?_,VR.pair q4.val (.int _ _),h.setMap hb hp (ble c0.1) c0.2 h1 (es2':=es'.modify j fun e=>{ e with key:=k' }) (c2:=clock) (by
       rw [toList_modify es' hj]
       exact h2.set ⟨hk,q4.val,q4.born⟩)⟩
      ·simp [Instr.mapEntry,run_underlying hu,yz h1 rfl,hck',q5,Instr.keyThatStays,hj,hkey,c1,q4.born,qF h1 rfl]
     ·rename_i u hck hf
      obtain ⟨rfl,q1,q5⟩:=ZG hf hk h2 w
      split at hr
      ·rename_i z hz
       obtain ⟨z1,z2⟩:=zeroT_spec hz
       cases hr
       have hck':=qd _ hck w
       refine ⟨.tuple #[z,goInt clock],_,?_,VR.pair (VR.refl_flat z2) (.int _ _),h.setMap hb hp (ble c0.1) c0.2 h1 (es2':=es'.push { key:=k',val:=z,born:=clock }) (c2:=clock + 1) (by
        have:=h2.push (e:={ key:=k',val:=z,born:=clock }) (e':={ key:=k',val:=z,born:=clock }) ⟨hk,VR.refl_flat z2,rfl⟩
        simpa using this)⟩
       ·simp [Instr.mapEntry,run_underlying hu,yz h1 rfl,hck',q5,z1,qF h1 rfl]
      ·cases hr
     ·cases hr
   ·cases hr
  ·cases hr
theorem zeJ (h:zH w0 G L H w) {t:TypeId} {m s v m' s' v':Value} {H':AH} (hr:Yf G H m s v = some H') (hm:VR L m m') (hs:VR L s s') (hv:VR L v v'):∃ w',(Instr.entryStore t m' s' v').run P w = .ok () w'/\zH w0 G L H' w':=by
 unfold Yf at hr
 split at hr
 ·rename_i b ki n
  split at hr
  ·rename_i es clock hb
   obtain ⟨c0,hr⟩:=cc hr
   simp only [zyL] at c0
   cases hs
   cases hm with
   | map hp =>
    rename_i p
    obtain ⟨es',h1,h2⟩:=h.obj b _ p hb hp
    split at hr
    ·rename_i j hj
     split at hr
     ·rename_i e he
      cases hr
      have hfi:es'.findIdx? (fun e=>(e.born:Int) == Int.ofNat n) = some j:=by
       have e0:es'.findIdx? (fun e=>(e.born:Int) == Int.ofNat n) = es'.toList.findIdx? (fun e=>(e.born:Int) == Int.ofNat n):=by
        cases es'; simp
       rw [e0]
       have e1:(fun e:MapEntry=>(e.born:Int) == Int.ofNat n) = fun e=>(fun k=>Nat.beq k n) e.born:=by
        funext e
        show ((e.born:Int) == (n:Int)) = Nat.beq e.born n
        cases q:Nat.beq e.born n
        ·have:e.born ≠ n:=fun hh=>by rw [hh] at q; simp at q
         exact beq_eq_false_iff_ne.2 (fun hh=>this (Int.ofNat.inj hh))
        ·have:=zyM q
         simp [this]
       rw [e1,MR.findIdx (p:=fun k=>Nat.beq k n) h2]
       exact hj
      have hlt:j < es'.toList.length:=by rw [<- h2.1]; exact (List.getElem?_eq_some_iff.1 he).1
      obtain ⟨e',he'⟩:∃ e',es'.toList[j]? = some e':=⟨_,zys hlt⟩
      have q4:=h2.2 j e e' he he'
      have hj':es'[j]? = some e':=by simpa using he'
      refine ⟨_,?_,h.setMap hb hp (ble c0.1) c0.2 h1 (es2':=es'.modify j fun e=>{ e with val:=v' }) (c2:=clock) (by
       rw [toList_modify es' hj']
       exact h2.set ⟨q4.key,hv,q4.born⟩)⟩
      simp only [Instr.entryStore,Sem.run_bind,yz h1 rfl,Result.andThen_ok,asInt,asIntOf,Sem.run_pure,hfi]
      exact qF h1 rfl
     ·cases hr
    ·cases hr
  ·cases hr
 ·cases hr
theorem zkR (h:zH w0 G L H w) {t t2 ty:TypeId} {m k m' k':Value} {H':AH} (hr:zck P G H t m k = some H') (hm:VR L m m') (hk:VR L k k'):∃ w',(Builtin.delete_ #[t,t2] ty #[m',k']).run P w = .ok (.tuple #[]) w'/\zH w0 G L H' w':=by
 unfold zck at hr
 split at hr
 ·cases hr
 ·rename_i kt et ht
  have hu:=mapT_spec ht
  split at hr
  ·rename_i b
   split at hr
   ·rename_i es clock hb
    have c0:=(cc hr).1
    replace hr:=(cc hr).2
    simp only [zyL] at c0
    cases hm with
    | map hp =>
     rename_i p
     obtain ⟨es',h1,h2⟩:=h.obj b _ p hb hp
     have hemp:es'.toList.isEmpty = es'.isEmpty:=by cases es'; simp
     split at hr
     ·rename_i j hf
      obtain ⟨rfl,q1,e,e',q2,q3,q4,q5⟩:=ZG hf hk h2 w
      rw [hemp] at q1
      injection hr with hr
      subst hr
      refine ⟨_,?_,h.setMap hb hp (ble c0.1) c0.2 h1 (es2':=es'.eraseIdxIfInBounds j) (c2:=clock) (by
       rw [Array.toList_eraseIdxIfInBounds]
       exact h2.eraseIdx j)⟩
      simp [Builtin.delete_,run_underlying hu,yz h1 rfl,q1,q5,qF h1 rfl]
     ·rename_i hf
      obtain ⟨rfl,q1,q5⟩:=ZG hf hk h2 w
      rw [hemp] at q1
      injection hr with hr
      subst hr
      refine ⟨_,?_,h.setMap hb hp (ble c0.1) c0.2 h1 (es2':=es') (c2:=clock) h2⟩
      simp [Builtin.delete_,run_underlying hu,yz h1 rfl,q1,q5,qF h1 rfl]
     ·cases hr
   ·cases hr
  ·cases hr
def zju (P:Program) (G:Nat) (H:AH) (pt:TypeId) (p l:Value):Option (Value × AH) :=
 match p,l with
 | .pointer none,.int .i64 (.ofNat 0)=>some (.string .empty,H)
 | .pointer (some ⟨b,o,none⟩),.int .i64 (.ofNat n)=>match P.underlying pt,H.get b with
  | some (.pointer e),some (.cells _ _ ty _ _)=>cond (Nat.beq ty e && Nat.beq (P.cellsOf e) 1 && Nat.ble G b && zq b && Nat.blt 0 n && Nat.ble n 4294967296) (match zaT H b o n with
   | some vs=>(match bytesOf vs with
    | some s=>some (.string ⟨s.toArray⟩,H.set b .dead)
    | none=>none)
   | none=>none) none
  | _,_=>none
 | _,_=>none
theorem ziI {e:TypeId} (hc:P.cellsOf e = 1) (count o n:Nat) (hn:o + n <= count):liesAt P P.depth e count o e n = true:=by
 have hd:P.depth = (2 * (P.types.size + Made.depth) + 1) + 1:=rfl
 rw [hd]
 simp only [liesAt,Bool.or_eq_true]
 left
 rw [hd]
 simp only [rowAt,hc]
 rw [if_neg (by decide)]
 simp only [Nat.div_one,Nat.mod_one,Bool.or_eq_true,zyL,decide_eq_true_eq]
 left
 exact ⟨⟨rfl,hn⟩,by simp [sameLayout]⟩
theorem zoW (h:zH w0 G L H w) {pt it ty:TypeId} {p l p' l' v:Value} {H':AH} (hr:zju P G H pt p l = some (v,H')) (hp:VR L p p') (hl:VR L l l') :
  ∃ w',(Builtin.unsafeString_ #[pt,it] ty #[p',l']).run P w = .ok v w'/\flat v = true/\zH w0 G L H' w':=by
 unfold zju at hr
 split at hr
 ·cases hr
  cases hp; cases hl
  exact ⟨w,Lib.run_unsafeString_none w pt it ty none,rfl,h⟩
 ·rename_i b o n
  cases hl
  cases hp with
  | ptr hp =>
   rename_i q
   split at hr
   ·rename_i e nn tr te op fz hu hb
    have c0:=(cc hr).1
    replace hr:=(cc hr).2
    split at hr
    ·rename_i vs hcl
     split at hr
     ·rename_i s hs
      cases hr
      simp only [zyL] at c0
      obtain ⟨⟨⟨⟨⟨c1,c2⟩,c3⟩,c4⟩,c5⟩,c6⟩:=c0
      have c1:=zyM c1
      subst c1
      have c2:=zyM c2
      have c5:0 < n:=by simpa using c5
      have c6:=ble c6
      obtain ⟨cur,fr,h1,_,_,h4⟩:=h.obj b _ q hb hp
      obtain ⟨xs,q1,q2,q3⟩:=ZF h hcl hp
      have hvs:=zaV hs
      have hfl:vs.all flat = true:=by rw [hvs]; simp [flat,yD]
      have hxs:xs = vs:=q1.eq_flat hfl
      have hlen:s.length = n:=by
       have:vs.length = s.length:=by rw [hvs]; simp
       rw [<- this,<- hxs]; exact q2
      have hcell:∀ j x,s[j]? = some x->w.cell? ((⟨q.b,q.base + o,none⟩:Addr).add j) = some (.int .u8 x.toNat):=fun j x hx=>by
       rw [Addr.add_none]
       refine (q3 j _ ?_).1
       rw [hxs,hvs,List.getElem?_map,hx]; rfl
      have hsize:q.base + o + n <= cur.size:=by
       have hj:s[n - 1]? = some (s[n - 1]'(by omega)):=zys (by omega)
       have:=(q3 (n - 1) _ (by rw [hxs,hvs,List.getElem?_map,hj]; rfl)).1
       simp only [World.cell?,h1] at this
       have hlt:q.base + o + (n - 1) < cur.size:=by
        rcases Nat.lt_or_ge (q.base + o + (n - 1)) cur.size with g | g
        ·exact g
        ·simp [Array.getElem?_eq_none g] at this
       omega
      have hsh:w.shape? q.b = some (te,cur.size):=by simp [World.shape?,h1]
      have hlies:=ziI (P:=P) c2 (cur.size / P.cellsOf te) (q.base + o) n (by rw [c2]; simpa using hsize)
      have hlb:=Lib.run_loadBytes (P:=P) w s ⟨q.b,q.base + o,none⟩ .empty hcell
      rw [hlen] at hlb
      have hrun:(Builtin.unsafeString_ #[pt,it] ty #[.pointer (some ⟨q.b,q.base + o,none⟩),.int .i64 (n:Int)]).run P w = .ok (.string ⟨s.toArray⟩) (w.freeze ⟨q.b,q.base + o,none⟩ n):=by
       have hdef:Builtin.unsafeString_ #[pt,it] ty #[.pointer (some ⟨q.b,q.base + o,none⟩),.int .i64 (n:Int)] =
         (do
          let n <- asInt (.int .i64 (n:Int))
          if n < 0 then runtimePanic (.error "unsafe.String: len out of range")
          if n > IntKind.i64.max then unsupported (.unsafePointer "String: a length above the largest int")
          if n = 0 then pure (.string .empty)
          else if <- variablesAt ⟨q.b,q.base + o,none⟩ (<- elemOf pt) n.toNat then do
           let s <- loadBytes ⟨q.b,q.base + o,none⟩ .empty n.toNat
           freeze ⟨q.b,q.base + o,none⟩ n.toNat
           pure (.string s)
          else unsupported (.unsafePointer "String: not so many bytes at ptr")) := rfl
       rw [hdef]
       have hmax:IntKind.i64.max = 9223372036854775807:=rfl
       have e0:¬ (9223372036854775807:Int) < (n:Int):=by omega
       have e1:¬ n = 0:=by omega
       have e2:¬ (n:Int) < 0:=by omega
       simp [asInt,asIntOf,hmax,e0,e1,e2,variablesAt,hsh,elemOf,run_underlying hu,hlies,hlb]
      have n0:¬ n = 0:=by omega
      refine ⟨_,hrun,rfl,h.upd hb rfl hp (ble c3) c4 (fun k hk=>?_) ?_ ?_ ?_ ?_ trivial⟩
      ·unfold World.freeze
       rw [if_neg n0]
       simp only [Array.getElem?_modify]
       rw [if_neg (Ne.symm hk)]
      all_goals (unfold World.freeze; rw [if_neg n0])
      simp
     ·cases hr
    ·cases hr
   ·cases hr
 ·cases hr
theorem zti {pt:TypeId} {p l v:Value} {H':AH} (h:zju P G H pt p l = some (v,H')):H.nx <= H'.nx:=by
 unfold zju at h
 split at h
 ·cases h; exact zyF _
 ·split at h
  ·replace h:=(cc h).2
   split at h
   ·split at h
    ·simp only [zyO,Prod.mk.injEq] at h; rw [<- h.2]; exact zyF _
    ·cases h
   ·cases h
  ·cases h
 ·cases h
theorem zkS {t:TypeId} {m k v:Value} {H':AH} (h:Qo P G H t m k = some (v,H')):H.nx <= H'.nx:=by
 unfold Qo at h
 split at h
 ·cases h
 ·split at h
  ·split at h
   ·replace h:=(cc h).2
    split at h
    ·split at h
     ·replace h:=(cc h).2; simp only [zyO,Prod.mk.injEq] at h; rw [<- h.2]; exact zyF _
     ·cases h
    ·split at h
     ·simp only [zyO,Prod.mk.injEq] at h; rw [<- h.2]; exact zyF _
     ·cases h
    ·cases h
   ·cases h
  ·cases h
theorem zhr {m s v:Value} {H':AH} (h:Yf G H m s v = some H'):H.nx <= H'.nx:=by
 unfold Yf at h
 split at h
 ·split at h
  ·replace h:=(cc h).2
   split at h
   ·split at h
    ·simp only [zyO] at h; rw [<- h]; exact zyF _
    ·cases h
   ·cases h
  ·cases h
 ·cases h
theorem zoX {t:TypeId} {m k:Value} {H':AH} (h:zck P G H t m k = some H'):H.nx <= H'.nx:=by
 unfold zck at h
 split at h
 ·cases h
 ·split at h
  ·split at h
   ·replace h:=(cc h).2
    split at h
    ·simp only [zyO] at h; rw [<- h]; exact zyF _
    ·simp only [zyO] at h; rw [<- h]; exact zyF _
    ·cases h
   ·cases h
  ·cases h
end
end Go.Run
