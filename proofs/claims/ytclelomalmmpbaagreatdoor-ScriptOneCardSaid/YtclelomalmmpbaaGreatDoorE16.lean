import Derived.Test.YtclelomalmmpbaaGreatDoorE9N
import Derived.WideKeyEntry
import Derived.DeepKeys4
import Derived.OpenShut
open List renaming getElem?_eq_getElem -> zvs
open List renaming mem_of_getElem? -> zvu
open List renaming mem_singleton -> zvv
open List renaming mem_append -> zvA
open Nat renaming le_refl -> zvF
open Bool renaming and_eq_true -> zvL
open Nat renaming eq_of_beq_eq_true -> zvM
open Option.some renaming injEq -> zvO
open Option renaming bind_some -> zvP
open List renaming length_append -> zvQ
open List renaming all_eq_true -> zvS
set_option linter.unusedSimpArgs false
set_option linter.unusedVariables false
namespace Go.Eng
open Go.RowKit
def InR (k:IntKind) (n:Int):Prop:=k.wrap n = n
theorem zoo (n:Int) (h:-9223372036854775808 <= n/\n <= 9223372036854775807):InR .i64 n:=IntWalk.i64_in n h
def zsy (b:Bool) (A B:Prop):Prop:=(b = true->A)/\(b = false->B)
def zop (t:Bool) (a b:V):V :=
 match a,b with
 | .bool x,.bool y=>.bool (bif t then x else y)
 | a,b=>if t then a else b
theorem zkM (t:Bool) (a b:V):zop t a b = if t then a else b:=by
 unfold zop
 split
 ·cases t <;> rfl
 ·rfl
def yZ (P:Program) (t:TypeId):Option TypeId:=match P.underlying t with
 | some (.slice e)=>some e
 | _=>none
theorem z7 {P:Program} {t e:TypeId} (h:yZ P t = some e):P.underlying t = some (.slice e):=by
 unfold yZ at h; split at h
 ·cases h; assumption
 ·cases h
def zfN (P:Program) (t:TypeId):Option (Nat × TypeId):=match P.underlying t with
 | some (.array n e)=>some (n,e)
 | _=>none
theorem zbJ {P:Program} {t e:TypeId} {n:Nat} (h:zfN P t = some (n,e)):P.underlying t = some (.array n e):=by
 unfold zfN at h; split at h
 ·cases h; assumption
 ·cases h
inductive BK where | int (k:IntKind) | bool | str | other
def ql (P:Program) (t:TypeId):BK:=match P.underlying t with
 | some (.int k)=>.int k
 | some .bool=>.bool
 | some .string=>.str
 | _=>.other
theorem Y1 {P:Program} {t:TypeId} {k:IntKind} (h:ql P t = .int k):P.underlying t = some (.int k):=by
 unfold ql at h; split at h <;> cases h; assumption
theorem zeA {P:Program} {t:TypeId} (h:ql P t = .bool):P.underlying t = some .bool:=by
 unfold ql at h; split at h <;> cases h; assumption
theorem ZA {P:Program} {t:TypeId} (h:ql P t = .str):P.underlying t = some .string:=by
 unfold ql at h; split at h <;> cases h; assumption
def ZU (P:Program) (t:TypeId) (bx:Nat->Option Box) (x:V) (K:V->Prop):Prop :=
 match x,aggT P t with
 | .elt cs off,some true=>match sizeT P t with | some n=>off + n <= cs.length/\K (.agg ((cs.drop off).take n)) | none=>False
 | .elt cs off,some false=>match cs[off]? with | some c=>K c | none=>False
 | .loc i off,some true=>match bx i,sizeT P t with | some B,some n=>B.ty < 1000000000/\off + n <= B.cells.length/\K (.agg ((B.cells.drop off).take n)) | _,_=>False
 | .loc i off,some false=>match bx i with | some B=>B.ty < 1000000000/\(match B.cells[off]? with | some c=>K c | none=>False) | none=>False
 | _,_=>False
def zql (op:BinOp) (k:IntKind) (a b:Int) (K:V->Prop):Prop :=
 match op with
 | .add=>InR k (a + b)/\K (.int k (a + b))
 | .sub=>InR k (a - b)/\K (.int k (a - b))
 | .mul=>InR k (a * b)/\K (.int k (a * b))
 | .quo=>b ≠ 0/\InR k (a.tdiv b)/\K (.int k (a.tdiv b))
 | .rem=>b ≠ 0/\K (.int k (a.tmod b))
 | .eql=>K (.bool (a == b))
 | .neq=>K (.bool (a != b))
 | .lss=>K (.bool (decide (a < b)))
 | .leq=>K (.bool (decide (a <= b)))
 | .gtr=>K (.bool (decide (b < a)))
 | .geq=>K (.bool (decide (b <= a)))
 | .and=>K (.int k (zb2 .and k a b))
 | .or=>K (.int k (zb2 .or k a b))
 | .xor=>K (.int k (zb2 .xor k a b))
 | .andNot=>K (.int k (zb2 .andNot k a b))
 | _=>False
def zqm (op:BinOp) (s t:List UInt8) (K:V->Prop):Prop :=
 match op with
 | .add=>s.length + t.length <= maxLen/\K (.str (s++t))
 | .eql=>K (.bool (s == t))
 | .neq=>K (.bool (!(s == t)))
 | .lss=>K (.bool (Op.bytesLess s t))
 | .leq=>K (.bool (Op.bytesLess s t || s == t))
 | .gtr=>K (.bool (!(Op.bytesLess s t || s == t)))
 | .geq=>K (.bool (!Op.bytesLess s t))
 | _=>False
def eqT (P:Program) (t:TypeId):Option (List CK) :=
 if P.eqGuardType P.depth t = false/\aggT P t = some true then ZY P 20 t else none
def Zy (ks:List CK):List V->Prop
 | []=>ks = []
 | c :: cs=>match ks with
  | k :: ks=>YL c = some k/\Zy ks cs
  | []=>False
theorem ZV:∀ {cs:List V} {ks:List CK},Zy ks cs->cs.map YL = ks.map some
 | [],ks,h=>by simp only [Zy] at h; subst h; rfl
 | c :: cs,ks,h=>by
  cases ks with
  | nil=>simp only [Zy] at h
  | cons k ks=>simp only [Zy] at h; simp [h.1,ZV h.2]
def ztC (op:BinOp) (k:IntKind) (a b:Int) (K:V->Prop):Prop :=
 match op with
 | .shl=>0 <= b/\K (.int k (k.wrap (a * 2 ^ (min b.toNat k.bits))))
 | .shr=>0 <= b/\K (.int k (a.fdiv (2 ^ (min b.toNat k.bits))))
 | _=>False
def zeB (P:Program) (op:BinOp) (xT:TypeId) (a b:V) (K:V->Prop):Prop :=
 match a,b with
 | .int k x,.int k' y=>(k = k'/\zql op k x y K) ∨ ztC op k x y K
 | .str s,.str t=>zqm op s t K
 | .bool x,.bool y=>match op,ql P xT with
  | .eql,.bool=>K (.bool (x == y))
  | .neq,.bool=>K (.bool (!(x == y)))
  | _,_=>False
 | .agg cs,.agg ds=>match op,eqT P xT with
  | .eql,some ks=>Zy ks cs/\Zy ks ds/\K (.bool (eqV cs ds))
  | .neq,some ks=>Zy ks cs/\Zy ks ds/\K (.bool (!eqV cs ds))
  | _,_=>False
 | _,_=>False
def zqn (op:UnOp) (x:V) (K:V->Prop):Prop :=
 match op,x with
 | .not,.bool b=>K (.bool (!b))
 | .neg,.int k n=>InR k (0 - n)/\K (.int k (0 - n))
 | _,_=>False
def bytesOf:List V->Option (List UInt8)
 | []=>some []
 | .int .u8 n :: vs=>if 0 <= n/\n < 256 then (bytesOf vs).map (UInt8.ofNat n.toNat :: ·) else none
 | _ :: _=>none
def za6 (P:Program) (s d:TypeId) (x:V) (K:V->Prop):Prop :=
 match x,ql P s,ql P d with
 | .int _ n,.int _,.int k=>K (.int k (k.wrap n))
 | .str l,.str,.str=>K (.str l)
 | .str l,.str,.other=>match yZ P d with
  | some e=>(match ql P e with | .int .u8=>K (.list (yS l)) | _=>False)
  | none=>False
 | .list rows,.other,.str=>match yZ P s with
  | some e=>(match ql P e with | .int .u8=>∃ l,rows = yS l/\K (.str l) | _=>False)
  | none=>False
 | _,_,_=>False
def Qr (st:St) (x:Option Operand) (d:Nat) (K:Nat->Prop):Prop :=
 match x with
 | none=>K d
 | some x=>match st.eval x with
  | .int _ i=>0 <= i/\K i.toNat
  | _=>False
theorem qH {st:St} {x:Option Operand} {d:Nat} {K:Nat->Prop} (h:Qr st x d K):∃ n,QM st.eval x d = some n/\K n:=by
 unfold Qr at h
 split at h
 ·exact ⟨d,rfl,h⟩
 ·split at h
  ·rename_i k i hx
   exact ⟨i.toNat,by simp [QM,hx,h.1],h.2⟩
  ·exact h.elim
def zci:Operand->Bool
 | .const (.int _ n)=>decide (n = 0)
 | _=>false
def zi7 (hi:Operand) (d:Nat):Nat:=bif zci hi then d else 1000000 + d
def ZW (P:Program) (t:TypeId) (st:St) (x:V) (lo hi mx:Option Operand) (dst:Option Nat) (K:V->Option (Nat × TypeId)->Prop):Prop :=
 match x,mx with
 | .str s,none=>(match ql P t with
  | .str=>Qr st lo 0 fun l=>Qr st hi s.length fun h=>l <= h/\h <= s.length/\K (.str ((s.take h).drop l)) none
  | _=>False)
 | .list rows,none=>(match yZ P t with
  | some e=>(match sizeT P e with
   | some n=>yL n rows/\Qr st lo 0 fun l=>Qr st hi rows.length fun h=>l <= h/\h <= rows.length/\K (.list ((rows.take h).drop l)) none
   | none=>False)
  | none=>False)
 | .list rows,some m=>(match yZ P t,hi with
  | some e,some hi=>(match sizeT P e with
   | some n=>yL n rows/\Qr st lo 0 fun l=>Qr st (some hi) rows.length fun h=>Qr st (some m) rows.length fun h'=>h' = h/\l <= h/\h <= rows.length/\K (.list ((rows.take h).drop l)) (some (zi7 hi (dst.getD 0),e))
   | none=>False)
  | _,_=>False)
 | .elt cs off,none=>(match lo,hi,zfN P t with
  | none,none,some (k,e)=>(match sizeT P e with
   | some n=>off + k * n <= cs.length/\k <= maxLen/\0 < k/\K (.list (YB n k (cs.drop off))) none
   | none=>False)
  | _,_,_=>False)
 | _,_=>False
def zft (P:Program) (s:TypeId) (i:Nat) (x:V) (K:V->Prop):Prop :=
 match fieldT P s i with
 | some (off,t)=>(match sizeT P t with
  | some n=>n ≠ 0/\(match x with
   | .loc j a=>K (.loc j (a + off))
   | .elt cs a=>K (.elt cs (a + off))
   | _=>False)
  | none=>False)
 | none=>False
def zcL (P:Program) (s:TypeId) (i:Nat) (x:V) (K:V->Prop):Prop :=
 match fieldT P s i,x with
 | some (off,t),.agg cs=>(match aggT P t,sizeT P t with
  | some true,some n=>K (.agg ((cs.drop off).take n))
  | some false,_=>(match cs[off]? with | some c=>K c | none=>False)
  | _,_=>False)
 | _,_=>False
def YO (P:Program) (t:TypeId) (x i:V) (K:V->Prop):Prop :=
 match x,i with
 | .list rows,.int _ i=>(match yZ P t with
  | some e=>(match sizeT P e with
   | some n=>yL n rows/\(0 <= i/\i < rows.length)/\K (.elt (rows.getD i.toNat .any).cellsL 0)
   | none=>False)
  | none=>False)
 | .loc j a,.int _ i=>(match zfN P t with
  | some (len,e)=>(match sizeT P e with | some n=>(0 <= i/\i < (len:Int))/\K (.loc j (a + i.toNat * n)) | none=>False)
  | none=>False)
 | .elt cs a,.int _ i=>(match zfN P t with
  | some (len,e)=>(match sizeT P e with | some n=>(0 <= i/\i < (len:Int))/\K (.elt cs (a + i.toNat * n)) | none=>False)
  | none=>False)
 | _,_=>False
def zao (P:Program) (t:TypeId) (x i:V) (K:V->Prop):Prop :=
 match x,i with
 | .str s,.int _ i=>(match ql P t with
  | .str=>(0 <= i/\i < s.length)/\K (.int .u8 (s.getD i.toNat 0).toNat)
  | _=>False)
 | .agg cs,.int _ i=>(match zfN P t with
  | some (len,e)=>(match aggT P e,sizeT P e with
   | some false,some n=>(0 <= i/\i < (len:Int))/\(match cs[i.toNat * n]? with | some c=>K c | none=>False)
   | _,_=>False)
  | none=>False)
 | _,_=>False
def zfu (P:Program) (t:TypeId) (st:St) (parts:List (Nat × Operand)) (K:V->Prop):Prop :=
 match zeroT P t,zfz P t with
 | some zv,some place=>zv.csize.isSome = true/\(match zeH place zv.cellsL (parts.map fun x=>(x.1,st.eval x.2)) with
  | some out=>K (.agg out)
  | none=>False)
 | _,_=>False
def zkN:List (Nat × Operand)->Nat->Bool
 | [],_=>true
 | (i,_) :: r,n=>i == n && zkN r (n + 1)
theorem zfO:∀ {l:List (Nat × Operand)} {n:Nat},zkN l n = true->l.map (·.1) = List.range' n l.length
 | [],_,_=>rfl
 | (i,_) :: r,n,h=>by
  simp only [zkN,zvL,beq_iff_eq] at h
  simp [List.range'_succ,h.1,zfO h.2]
def zcM (P:Program) (t:TypeId) (st:St) (len:Nat) (parts:List (Nat × Operand)) (dst:Option Nat) (K:V->Option (Nat × TypeId)->Prop):Prop :=
 match yZ P t with
 | some e=>(match sizeT P e,zeroT P e with
  | some sz,some zv=>(sz ≠ 0/\zv.csize = some sz/\parts.length = len/\len * sz <= 16777216/\zkN parts 0 = true)/\yL sz (parts.map fun x=>st.eval x.2)/\K (.list (parts.map fun x=>st.eval x.2)) (some (dst.getD 0,e))
  | _,_=>False)
 | none=>False
def zif (x:V) (K:V->Prop):Prop :=
 match x with
 | .loc i off=>K (.loc i off)
 | .elt cs off=>K (.elt cs off)
 | _=>False
def zi8 (P:Program) (t:TypeId):Bool:=match P.underlying t with
 | some (.interface _)=>false
 | some _=>true
 | none=>false
def zig (P:Program) (t:TypeId) (x:V) (K:V->Prop):Prop :=
 match x with
 | .list rows=>(match yZ P t with | some _=>K (.int .i64 rows.length) | none=>False)
 | .str s=>(match ql P t with | .str=>K (.int .i64 s.length) | _=>False)
 | _=>False
def zmF (P:Program) (f:FuncId) (args:List V) (K:V->Prop):Prop:=zb3 P f = true/\V.noLocL args = true/\∃ res,Fn P f args [] res []/\K res
def YV (P:Program) (b:Builtin) (args:List V) (tys:List TypeId) (K:V->Prop):Prop :=
 match b,args,tys with
 | .len,[x],[t]=>zig P t x K
 | .max,[.int k a,.int k' b],[_,_]=>k = k'/\K (.int k (max a b))
 | .min,[.int k a,.int k' b],[_,_]=>k = k'/\K (.int k (min a b))
 | _,_,_=>False
def zcN (P:Program) (o:Oper) (st:St) (x:Operand) (K:V->Option (Nat × TypeId)->Prop):Prop :=
 match x with
 | .const (.slice none 0 0)=>(match yZ P o.type with
  | some e=>K (.list []) (some (o.dst.getD 0,e))
  | none=>K (.list []) none)
 | x=>K (st.eval x) (st.tokOf x)
def zcO (P:Program) (t:TypeId) (bx:Nat->Option Box) (m x:V) (ok:Bool) (K:V->Prop):Prop :=
 match m,mapT P t with
 | .mref i,some (kt,et)=>(match bx i,keyT P kt,zeroT P et with
  | some B,some (ag,ks),some zv=>1000000000 <= B.ty/\KeyT P kt/\Yu ag ks x/\Z0 ag ks B.cells /\
    K (if ok then .tup [(qU B.cells x).getD zv,.bool (qU B.cells x).isSome] else (qU B.cells x).getD zv)
  | _,_,_=>False)
 | _,_=>False
def qG (P:Program) (o:Oper) (st:St) (K:V->Option (Nat × TypeId)->Prop):Prop :=
 match o.op with
 | .move x=>K (st.eval x) (st.tokOf x)
 | .assign x=>zcN P o st x K
 | .pick c x y=>(match st.eval c with | .bool t=>K (zop t (st.eval x) (st.eval y)) none | _=>False)
 | .load t x=>ZU P t st.box (st.eval x) (K · none)
 | .binOp op xT x y _=>zeB P op xT (st.eval x) (st.eval y) (K · none)
 | .unOp op _ x=>zqn op (st.eval x) (K · none)
 | .convert s d x=>za6 P s d (st.eval x) (K · none)
 | .makeInterface t x=>zi8 P t = true/\K (.iface t (st.eval x)) none
 | .makeFunc f first cap=>K (.fn f (first.toList.map st.eval) (cap.toList.map st.eval)) none
 | .slice t x lo hi mx=>ZW P t st (st.eval x) lo hi mx o.dst K
 | .fieldAddr s x i=>zft P s i (st.eval x) (K · none)
 | .field s x i=>zcL P s i (st.eval x) (K · none)
 | .indexAddr t x i=>YO P t (st.eval x) (st.eval i) (K · none)
 | .index t x i=>zao P t (st.eval x) (st.eval i) (K · none)
 | .extract x i=>(match st.eval x with | .tup vs=>(match vs[i]? with | some v=>K v none | none=>False) | _=>False)
 | .build t parts=>zfu P t st parts.toList (K · none)
 | .buildSlice t len parts=>zcM P t st len parts.toList o.dst K
 | .nilCheck x=>zif (st.eval x) (K · none)
 | .lookup t m x ok=>zcO P t st.box (st.eval m) (st.eval x) ok (K · none)
 | .call { callee:=.value f,args,.. }=>(match st.eval f with
  | .fn (.func g) first cap=>zmF P g (first++args.toList.map st.eval++cap) (K · none)
  | _=>False)
 | .call { callee:=.builtin b,args,argTypes }=>YV P b (args.toList.map st.eval) argTypes.toList (K · none)
 | _=>False
def QVT (P:Program) (o:Oper) (ρ:Operand->V) (τ:Operand->Option (Nat × TypeId)) (bx:Nat->Option Box) (v:V) (tk:Option (Nat × TypeId)):Prop :=
 (∃ fr,QV P o ρ bx v fr/\tk = none) ∨ ∃ x,(o.op = .move x ∨ o.op = .assign x)/\v = ρ x/\tk = τ x
def yk (o:Oper):Bool:=match o.op with
 | .move _=>true
 | .assign (.const (.slice none 0 0))=>false
 | .assign _=>true
 | _=>false
def QVF (P:Program) (o:Oper) (ρ:Operand->V) (τ:Operand->Option (Nat × TypeId)) (bx:Nat->Option Box) (v:V) (tk:Option (Nat × TypeId)):Prop :=
 (yk o = false/\∃ fr,QV P o ρ bx v fr/\∀ t e,tk = some (t,e)->fr = some (tcl t,e)) ∨ (yk o = true/\∃ x,(o.op = .move x ∨ o.op = .assign x)/\v = ρ x/\tk = τ x)
theorem QVF.of {P:Program} {o:Oper} {ρ:Operand->V} {τ:Operand->Option (Nat × TypeId)} {bx:Nat->Option Box} {v:V} (h:QV P o ρ bx v none) (hc:yk o = false):QVF P o ρ τ bx v none :=
 .inl ⟨hc,none,h,fun _ _ h=>by cases h⟩
theorem zcP {P:Program} {o:Oper} {ρ:Operand->V} {bx:Nat->Option Box} (ho:o.op = .assign (.const (.slice none 0 0))) (e:TypeId):QV P o ρ bx (.list []) (some (0,e)) :=
 QV.of_run fun a w pr lam _ _ _=>by
  refine ⟨.slice none 0 0,w,pr,by simp [execOp,ho,Act.eval],Ext.refl w pr,?_,fun _ _ hce=>by cases hce; exact ⟨by omega,Own.full⟩⟩
  simp only [R]
  exact ⟨none,0,rfl,zvF _,by simp [maxLen],.inl ⟨trivial,rfl⟩⟩
section
variable {P:Program} {o:Oper} {st:St}
theorem zap {t:TypeId} {x:Operand} {K:V->Prop} (ho:o.op = .load t x) (h:ZU P t st.box (st.eval x) K):∃ v,QV P o st.eval st.box v none/\K v:=by
 unfold ZU at h
 split at h
 ·rename_i cs off hx ha
  split at h
  ·rename_i n hs; exact ⟨_,zfe ho hx ha hs h.1,h.2⟩
  ·exact h.elim
 ·rename_i cs off hx ha
  split at h
  ·rename_i c hc; exact ⟨_,zff ho hx ha hc,h⟩
  ·exact h.elim
 ·rename_i i off hx ha
  split at h
  ·rename_i B n hb hs; exact ⟨_,zfg ho hx hb ha hs h.2.1 h.1,h.2.2⟩
  ·exact h.elim
 ·rename_i i off hx ha
  split at h
  ·rename_i B hb
   obtain ⟨hpl,h⟩:=h
   split at h
   ·rename_i c hc; exact ⟨_,zfh ho hx hb ha hc hpl,h⟩
   ·exact h.elim
  ·exact h.elim
 ·exact h.elim
theorem zkO {op:BinOp} {xT yT:TypeId} {x y:Operand} {K:V->Prop} (ho:o.op = .binOp op xT x y yT) (h:zeB P op xT (st.eval x) (st.eval y) K):∃ v,QV P o st.eval st.box v none/\K v:=by
 unfold zeB at h
 split at h
 ·rename_i k a k' b hx hy
  rcases h with h | h
  rotate_left
  ·unfold ztC at h
   split at h
   ·exact ⟨_,zij ho hx hy (by unfold shI; rw [if_neg (by omega)]),h.2⟩
   ·exact ⟨_,zij ho hx hy (by unfold shI; rw [if_neg (by omega)]),h.2⟩
   ·exact h.elim
  obtain ⟨rfl,h⟩:=h
  have key:∀ v,zk1 op k a b = some v->K v->∃ v,QV P o st.eval st.box v none/\K v:=fun v hv hk=>⟨v,zmV ho hx hy hv,hk⟩
  cases op <;> simp only [zql] at h
  case add=>exact key (.int k (k.wrap (a + b))) rfl (by have:=h.1; unfold InR at this; rw [this]; exact h.2)
  case sub=>exact key (.int k (k.wrap (a - b))) rfl (by have:=h.1; unfold InR at this; rw [this]; exact h.2)
  case mul=>exact key (.int k (k.wrap (a * b))) rfl (by have:=h.1; unfold InR at this; rw [this]; exact h.2)
  case quo=>exact key (.int k (k.wrap (a.tdiv b))) (by simp only [zk1,if_neg h.1]) (by have:=h.2.1; unfold InR at this; rw [this]; exact h.2.2)
  case rem=>exact key (.int k (a.tmod b)) (by simp only [zk1,if_neg h.1]) h.2
  all_goals first | exact h.elim | exact key _ rfl h
 ·rename_i s t hx hy
  have key:∀ v,zsF op s t = some v->K v->∃ v,QV P o st.eval st.box v none/\K v:=fun v hv hk=>⟨v,zmW ho hx hy hv,hk⟩
  cases op <;> simp only [zqm] at h
  case add=>exact key _ (by simp only [zsF,if_pos h.1]) h.2
  all_goals first | exact h.elim | exact key _ rfl h
 ·rename_i a b hx hy
  split at h
  ·rename_i hT; exact ⟨_,zeF ho hx hy (zeA hT) rfl,h⟩
  ·rename_i hT; exact ⟨_,zeF ho hx hy (zeA hT) rfl,h⟩
  ·exact h.elim
 ·rename_i cs ds hx hy
  have key:∀ ks,eqT P xT = some ks->P.eqGuardType P.depth xT = false/\aggT P xT = some true/\ZY P 20 xT = some ks:=by
   intro ks hk
   unfold eqT at hk
   split at hk
   ·rename_i hc; exact ⟨hc.1,hc.2,hk⟩
   ·cases hk
  split at h
  ·rename_i ks hT
   obtain ⟨k1,k2,k3⟩:=key ks hT
   exact ⟨_,zgf ho hx hy k1 k2 k3 (ZV h.1) (ZV h.2.1) rfl,h.2.2⟩
  ·rename_i ks hT
   obtain ⟨k1,k2,k3⟩:=key ks hT
   exact ⟨_,zgf ho hx hy k1 k2 k3 (ZV h.1) (ZV h.2.1) rfl,h.2.2⟩
  ·exact h.elim
 ·exact h.elim
theorem zhB {t:TypeId} {x:Operand} {lo hi mx:Option Operand} {K:V->Option (Nat × TypeId)->Prop} (hsm:∀ d,o.dst = some d->d < 1000000) (ho:o.op = .slice t x lo hi mx) (h:ZW P t st (st.eval x) lo hi mx o.dst K) :
  ∃ v tk,QVF P o st.eval st.tokOf st.box v tk/\K v tk:=by
 have hcp:yk o = false:=by simp [yk,ho]
 have hdc:∀ hi,tcl (zi7 hi (o.dst.getD 0)) = (bif zci hi then 0 else 1):=fun hi=>by
  unfold tcl zi7
  cases hq:o.dst with
  | none=>cases zci hi <;> simp
  | some d=>have:=hsm d hq; cases zci hi <;> simp <;> omega
 unfold ZW at h
 split at h
 ·rename_i s hx
  split at h
  ·rename_i hT
   obtain ⟨l,hl,h⟩:=qH h
   obtain ⟨hh,hl2,h1,h2,h3⟩:=qH h
   exact ⟨_,none,.of (zjl ho hx (ZA hT) hl hl2 h1 h2) hcp,h3⟩
  ·exact h.elim
 ·rename_i rows hx
  split at h
  ·rename_i e hT
   split at h
   ·rename_i n hs
    obtain ⟨hr,h⟩:=h
    obtain ⟨l,hl,h⟩:=qH h
    obtain ⟨hh,hl2,h1,h2,h3⟩:=qH h
    exact ⟨_,none,.of (zhI ho hx (z7 hT) hs hr hl hl2 h1 h2) hcp,h3⟩
   ·exact h.elim
  ·exact h.elim
 ·rename_i rows m hx
  split at h
  ·rename_i e hi' hT
   split at h
   ·rename_i n hs
    obtain ⟨hr,h⟩:=h
    obtain ⟨l,hl,h⟩:=qH h
    obtain ⟨hh,hl2,h⟩:=qH h
    obtain ⟨h',hl3,rfl,h1,h2,h3⟩:=qH h
    refine ⟨_,_,.inl ⟨hcp,some (_,e),zf8 (c0:=bif zci hi' then 0 else 1) ?_ ho hx (z7 hT) hs hr hl hl2 hl3 h1 h2,fun t e' he=>by cases he; rw [hdc]⟩,h3⟩
    cases hz:zci hi' with
    | false=>exact .inl rfl
    | true =>
     refine .inr ⟨rfl,?_⟩
     unfold zci at hz
     split at hz
     ·simp only [decide_eq_true_eq] at hz
      subst hz
      simp [QM,St.eval,qv,Yh] at hl2
      omega
     ·cases hz
   ·exact h.elim
  ·exact h.elim
 ·rename_i cs off hx
  split at h
  ·rename_i k e hT
   split at h
   ·rename_i n hs
    obtain ⟨h1,h2,h3,h4⟩:=h
    exact ⟨_,none,.of (zjk ho hx (zbJ hT) hs h1 h2 h3) hcp,h4⟩
   ·exact h.elim
  ·exact h.elim
 ·exact h.elim
theorem zhC {t:TypeId} {x ix:Operand} {K:V->Prop} (ho:o.op = .indexAddr t x ix) (h:YO P t (st.eval x) (st.eval ix) K):∃ v,QV P o st.eval st.box v none/\K v:=by
 unfold YO at h
 split at h
 ·rename_i rows k i hx hi
  split at h
  ·rename_i e hT
   split at h
   ·rename_i n hs
    obtain ⟨hr,⟨h0,h1⟩,hk⟩:=h
    have hlt:i.toNat < rows.length:=by omega
    have hg:rows[i.toNat]? = some (rows.getD i.toNat .any):=by simp [List.getD,zvs hlt]
    exact ⟨_,zcX ho hx hi (z7 hT) hs hr h0 hg,hk⟩
   ·exact h.elim
  ·exact h.elim
 ·rename_i j a k i hx hi
  split at h
  ·rename_i len e hT
   split at h
   ·rename_i n hs; exact ⟨_,zdQ ho hx hi (zbJ hT) hs h.1.1 h.1.2,h.2⟩
   ·exact h.elim
  ·exact h.elim
 ·rename_i cs a k i hx hi
  split at h
  ·rename_i len e hT
   split at h
   ·rename_i n hs; exact ⟨_,zdR ho hx hi (zbJ hT) hs h.1.1 h.1.2,h.2⟩
   ·exact h.elim
  ·exact h.elim
 ·exact h.elim
theorem zhD {t:TypeId} {x ix:Operand} {K:V->Prop} (ho:o.op = .index t x ix) (h:zao P t (st.eval x) (st.eval ix) K):∃ v,QV P o st.eval st.box v none/\K v:=by
 unfold zao at h
 split at h
 ·rename_i s k i hx hi
  split at h
  ·rename_i hT
   obtain ⟨⟨h0,h1⟩,hk⟩:=h
   have hlt:i.toNat < s.length:=by omega
   have hg:s[i.toNat]? = some (s.getD i.toNat 0):=by simp [List.getD,zvs hlt]
   exact ⟨_,zjj ho hx hi (ZA hT) h0 hg,hk⟩
  ·exact h.elim
 ·rename_i cs k i hx hi
  split at h
  ·rename_i len e hT
   split at h
   ·rename_i n ha hs
    obtain ⟨⟨h0,h1⟩,hk⟩:=h
    split at hk
    ·rename_i c hc; exact ⟨_,zdS ho hx hi (zbJ hT) ha hs h0 h1 hc,hk⟩
    ·exact hk.elim
   ·exact h.elim
  ·exact h.elim
 ·exact h.elim
theorem zhE {s:TypeId} {x:Operand} {i:Nat} {K:V->Prop} (ho:o.op = .field s x i) (h:zcL P s i (st.eval x) K):∃ v,QV P o st.eval st.box v none/\K v:=by
 unfold zcL at h
 split at h
 ·rename_i off t cs hf hx
  split at h
  ·rename_i n ha hs; exact ⟨_,zjm ho hx hf ha hs,h⟩
  ·rename_i ha
   split at h
   ·rename_i c hc; exact ⟨_,zjn ho hx hf ha hc,h⟩
   ·exact h.elim
  ·exact h.elim
 ·exact h.elim
theorem zi9 {s d:TypeId} {x:Operand} {K:V->Prop} (ho:o.op = .convert s d x) (h:za6 P s d (st.eval x) K):∃ v,QV P o st.eval st.box v none/\K v:=by
 unfold za6 at h
 split at h
 ·rename_i k n k1 k2 hx hs hd
  exact ⟨_,zk2 ho hx (Y1 hs) (Y1 hd),h⟩
 ·rename_i l hx hs hd; exact ⟨_,zk3 ho hx (ZA hs) (ZA hd),h⟩
 ·rename_i l hx hs hd
  split at h
  ·rename_i e hT
   split at h
   ·rename_i he; exact ⟨_,zc0 ho hx (ZA hs) (z7 hT) (Y1 he),h⟩
   ·exact h.elim
  ·exact h.elim
 ·rename_i rows hx hs hd
  split at h
  ·rename_i e hT
   split at h
   ·rename_i he
    obtain ⟨l,rfl,h⟩:=h
    exact ⟨_,zc1 ho hx (z7 hT) (Y1 he) (ZA hd),h⟩
   ·exact h.elim
  ·exact h.elim
 ·exact h.elim
theorem zeC {K:V->Option (Nat × TypeId)->Prop} (hsm:∀ d,o.dst = some d->d < 1000000) (h:qG P o st K):∃ v tk,QVF P o st.eval st.tokOf st.box v tk/\K v tk:=by
 have hdc:tcl (o.dst.getD 0) = 0:=by
  unfold tcl
  cases hq:o.dst with
  | none=>simp
  | some d=>have:=hsm d hq; simp; omega
 have one':yk o = false->(∃ v,QV P o st.eval st.box v none/\K v none)->∃ v tk,QVF P o st.eval st.tokOf st.box v tk/\K v tk:=fun hc ⟨v,q,k⟩=>⟨v,none,.of q hc,k⟩
 unfold qG at h
 split at h
 ·rename_i x ho; exact ⟨_,_,.inr ⟨by simp [yk,ho],x,.inl ho,rfl,rfl⟩,h⟩
 ·rename_i x ho
  unfold zcN at h
  split at h
  ·split at h
   ·rename_i e hT; exact ⟨_,_,.inl ⟨by simp [yk,ho],some (0,e),zcP ho e,fun t e' he=>by cases he; rw [hdc]⟩,h⟩
   ·exact ⟨_,none,.inl ⟨by simp [yk,ho],some (0,0),zcP ho 0,fun t e' he=>by cases he⟩,h⟩
  ·rename_i hne
   refine ⟨_,_,.inr ⟨?_,x,.inr ho,rfl,rfl⟩,h⟩
   unfold yk
   rw [ho]
   split
   ·rfl
   ·rename_i heq; cases heq; exact absurd rfl hne
   ·rfl
   ·rename_i hn2; exact absurd rfl (hn2 x)
 ·rename_i c x y ho
  split at h
  ·rename_i t hc
   refine one' (by simp [yk, *]) ⟨_,zsE ho hc,?_⟩
   rw [<- zkM]; exact h
  ·exact h.elim
 ·rename_i ho; exact one' (by simp [yk, *]) (zap ho h)
 ·rename_i ho; exact one' (by simp [yk, *]) (zkO ho h)
 ·rename_i op xT x ho
  unfold zqn at h
  split at h
  ·rename_i b hx; exact one' (by simp [yk, *]) ⟨_,ztF ho hx,h⟩
  ·rename_i k n hx; exact one' (by simp [yk, *]) ⟨_,ztG ho hx,by have:=h.1; unfold InR at this; rw [this]; exact h.2⟩
  ·exact h.elim
 ·rename_i ho; exact one' (by simp [yk, *]) (zi9 ho h)
 ·rename_i t x ho
  obtain ⟨h1,h2⟩:=h
  unfold zi8 at h1
  split at h1
  ·cases h1
  ·rename_i d hne hu
   exact one' (by simp [yk, *]) ⟨_,zji ho hu (by cases d <;> first | rfl | exact absurd rfl (hne _)),h2⟩
  ·cases h1
 ·rename_i f first cap ho; exact one' (by simp [yk, *]) ⟨_,zk4 ho,h⟩
 ·rename_i ho; exact zhB hsm ho h
 ·rename_i s x i ho
  unfold zft at h
  split at h
  ·rename_i off t hf
   split at h
   ·rename_i n hs
    obtain ⟨hn,h⟩:=h
    split at h
    ·rename_i j a hx; exact one' (by simp [yk, *]) ⟨_,zdO ho hx hf hs hn,h⟩
    ·rename_i cs a hx; exact one' (by simp [yk, *]) ⟨_,zdP ho hx hf hs hn,h⟩
    ·exact h.elim
   ·exact h.elim
  ·exact h.elim
 ·rename_i ho; exact one' (by simp [yk, *]) (zhE ho h)
 ·rename_i ho; exact one' (by simp [yk, *]) (zhC ho h)
 ·rename_i ho; exact one' (by simp [yk, *]) (zhD ho h)
 ·rename_i x i ho
  split at h
  ·rename_i vs hx
   split at h
   ·rename_i v hv; exact one' (by simp [yk, *]) ⟨_,zmX ho hx hv,h⟩
   ·exact h.elim
  ·exact h.elim
 ·rename_i t parts ho
  unfold zfu at h
  split at h
  ·rename_i zv place hz hp
   obtain ⟨hn,h⟩:=h
   obtain ⟨n,hn⟩:=Option.isSome_iff_exists.1 hn
   split at h
   ·rename_i out hf; exact one' (by simp [yk, *]) ⟨_,zqK ho hz hn hp hf,h⟩
   ·exact h.elim
  ·exact h.elim
 ·rename_i t len parts ho
  unfold zcM at h
  split at h
  ·rename_i e hT
   split at h
   ·rename_i sz zv hs hz
    obtain ⟨⟨h1,h2,h3,h4,h5⟩,h6,h7⟩:=h
    refine ⟨_,_,.inl ⟨by simp [yk,ho],some (0,e),zhJ ho (z7 hT) hs h1 hz h2 (by simpa using h3) h4 ?_ h6,fun t e' he=>by cases he; rw [hdc]⟩,h7⟩
    rw [zfO h5,List.range_eq_range',h3]
   ·exact h.elim
  ·exact h.elim
 ·rename_i x ho
  unfold zif at h
  split at h
  ·rename_i i off hx; exact one' (by simp [yk, *]) ⟨_,zfi ho hx,h⟩
  ·rename_i cs off hx; exact one' (by simp [yk, *]) ⟨_,zfj ho hx,h⟩
  ·exact h.elim
 ·rename_i t m x ok ho
  unfold zcO at h
  split at h
  ·rename_i i kt et hm hT
   split at h
   ·rename_i B ag ks zv hb hk hz
    exact one' (by simp [yk, *]) ⟨_,zpr ho hm hb h.1 hT hk h.2.1 h.2.2.1 h.2.2.2.1 hz,h.2.2.2.2⟩
   ·exact h.elim
  ·exact h.elim
 ·rename_i f args tys ho
  split at h
  ·rename_i g first cap hx
   obtain ⟨h1,h2,res,h3,h4⟩:=h
   exact one' (by simp [yk, *]) ⟨res,zjo ho hx h1 h2 h3,h4⟩
  ·exact h.elim
 ·rename_i b args tys ho
  unfold YV at h
  split at h
  ·rename_i x t ha ht
   have ea:∃ y,args = #[y]/\st.eval y = x:=by
    obtain ⟨l⟩:=args
    match l,ha with
    | [y],ha=>simp at ha; exact ⟨y,rfl,ha⟩
   have et:tys = #[t]:=by obtain ⟨l⟩:=tys; simpa using ht
   obtain ⟨y,rfl,hy⟩:=ea
   subst et
   unfold zig at h
   split at h
   ·split at h
    ·rename_i e hT; exact one' (by simp [yk, *]) ⟨_,zk5 ho hy (z7 hT),h⟩
    ·exact h.elim
   ·split at h
    ·rename_i hT; exact one' (by simp [yk, *]) ⟨_,zmY ho hy (ZA hT),h⟩
    ·exact h.elim
   ·exact h.elim
  ·rename_i k a k' b t u ha ht
   obtain ⟨rfl,h⟩:=h
   have ea:∃ y z,args = #[y,z]/\st.eval y = .int k a/\st.eval z = .int k b:=by
    obtain ⟨l⟩:=args
    match l,ha with
    | [y,z],ha=>simp at ha; exact ⟨y,z,rfl,ha⟩
    | [],ha=>simp at ha
    | [_],ha=>simp at ha
    | _ :: _ :: _ :: _,ha=>simp at ha
   have et:tys = #[t,u]:=by obtain ⟨l⟩:=tys; simpa using ht
   obtain ⟨y,z,rfl,hy,hz⟩:=ea
   subst et
   exact one' (by simp [yk, *]) ⟨_,ztH ho hy hz,h⟩
  ·rename_i k a k' b t u ha ht
   obtain ⟨rfl,h⟩:=h
   have ea:∃ y z,args = #[y,z]/\st.eval y = .int k a/\st.eval z = .int k b:=by
    obtain ⟨l⟩:=args
    match l,ha with
    | [y,z],ha=>simp at ha; exact ⟨y,z,rfl,ha⟩
    | [],ha=>simp at ha
    | [_],ha=>simp at ha
    | _ :: _ :: _ :: _,ha=>simp at ha
   have et:tys = #[t,u]:=by obtain ⟨l⟩:=tys; simpa using ht
   obtain ⟨y,z,rfl,hy,hz⟩:=ea
   subst et
   exact one' (by simp [yk, *]) ⟨_,ztI ho hy hz,h⟩
  ·exact h.elim
 ·exact h.elim
end
end Go.Eng
namespace Go.Eng
open Go.RowKit
mutual
def V.flat:V->Bool
 | .list rows=>rows.isEmpty
 | .elt cs _=>cs.isEmpty
 | .agg cs=>V.flatL cs
 | .tup cs=>V.flatL cs
 | .fn _ a b=>V.flatL a && V.flatL b
 | .iface _ v=>v.flat
 | _=>true
def V.flatL:List V->Bool
 | []=>true
 | c :: cs=>c.flat && V.flatL cs
end
mutual
theorem R.flat {w w':World} {pr pr':Nat->Nat->Prop} {lam:Nat->Option Nat}:∀ (v:V) (x:Value),v.flat = true->R ⟨w,pr,lam⟩ v x->R ⟨w',pr',lam⟩ v x
 | .any,_,_,_=>by simp [R]
 | .un,_,_,q=>by simpa [R] using q
 | .int _ _,_,_,q=>by simpa [R] using q
 | .bool _,_,_,q=>by simpa [R] using q
 | .str _,_,_,q=>by simpa [R] using q
 | .agg cs,_,n,q=>by
  simp only [V.flat] at n; simp only [R] at q ⊢
  obtain ⟨xs,e,q,q1⟩:=q
  exact ⟨xs,e,RL.flat cs xs n q,q1⟩
 | .tup cs,_,n,q=>by
  simp only [V.flat] at n; simp only [R] at q ⊢
  obtain ⟨xs,e,q⟩:=q
  exact ⟨xs,e,RL.flat cs xs n q⟩
 | .loc _ _,_,_,q=>by simpa [R] using q
 | .elt cs off,_,n,q=>by
  simp only [V.flat,List.isEmpty_iff] at n; subst n
  simp only [R,RC,and_true] at q ⊢
  exact q
 | .nilp,_,_,q=>by simpa [R] using q
 | .list rows,_,n,q=>by
  simp only [V.flat,List.isEmpty_iff] at n; subst n
  simp only [R,RR,and_true] at q ⊢
  exact q
 | .fn _ a b,_,n,q=>by
  simp only [V.flat,zvL] at n; simp only [R] at q ⊢
  obtain ⟨xs,ys,e,q1,q2⟩:=q
  exact ⟨xs,ys,e,RL.flat a xs n.1 q1,RL.flat b ys n.2 q2⟩
 | .nilfn,_,_,q=>by simpa [R] using q
 | .iface _ v,_,n,q=>by
  simp only [V.flat] at n; simp only [R] at q ⊢
  obtain ⟨y,e,q⟩:=q
  exact ⟨y,e,R.flat v y n q⟩
 | .nilif,_,_,q=>by simpa [R] using q
 | .mref _,_,_,q=>by simpa [R] using q
 | .nilm,_,_,q=>by simpa [R] using q
 | .ptr _,_,_,q=>by simpa [R] using q
theorem RL.flat {w w':World} {pr pr':Nat->Nat->Prop} {lam:Nat->Option Nat}:∀ (cs:List V) (xs:List Value),V.flatL cs = true->RL ⟨w,pr,lam⟩ cs xs->RL ⟨w',pr',lam⟩ cs xs
 | [],_,_,q=>by simpa [RL] using q
 | c :: cs,_,n,q=>by
  simp only [V.flatL,zvL] at n; simp only [RL] at q ⊢
  obtain ⟨y,ys,e,q1,q2⟩:=q
  exact ⟨y,ys,e,R.flat c y n.1 q1,RL.flat cs ys n.2 q2⟩
end
theorem RM.flat {w w':World} {pr pr':Nat->Nat->Prop} {lam:Nat->Option Nat}:∀ (cs:List V) (es:List MapEntry),V.flatL cs = true->RM ⟨w,pr,lam⟩ cs es->RM ⟨w',pr',lam⟩ cs es
 | [],_,_,q=>by simpa [RM] using q
 | c :: cs,_,n,q=>by
  simp only [V.flatL,zvL] at n; simp only [RM] at q ⊢
  obtain ⟨k,v,e,es',rfl,h2,h3,h4,h5⟩:=q
  have n1:=n.1
  simp only [V.flat,V.flatL,Bool.and_true,zvL] at n1
  exact ⟨k,v,e,es',rfl,h2,R.flat _ _ n1.1 h3,R.flat _ _ n1.2 h4,RM.flat cs es' n.2 h5⟩
theorem ZI:∀ {cs:List V},V.flatL cs = true->∀ c ∈ cs,c.flat = true
 | [],_,c,hc=>by simp at hc
 | d :: cs,h,c,hc=>by
  simp only [V.flatL,zvL] at h
  rcases List.mem_cons.1 hc with rfl | hc
  ·exact h.1
  ·exact ZI h.2 c hc
theorem zfP:∀ {cs:List V},(∀ c ∈ cs,c.flat = true)->V.flatL cs = true
 | [],_=>rfl
 | d :: cs,h=>by
  have h1:=h d (by simp)
  have h2:V.flatL cs = true:=zfP (fun c hc=>h c (List.mem_cons_of_mem _ hc))
  simp [V.flatL,h1,h2]
theorem Zu.flat {w w':World} {pr pr':Nat->Nat->Prop} {lam:Nat->Option Nat} {b:Nat} {B:Box} (hb:w'.heap[b]? = w.heap[b]?) (hf:V.flatL B.cells = true) (h:Zu ⟨w,pr,lam⟩ b B):Zu ⟨w',pr',lam⟩ b B:=by
 refine ⟨fun ht=>?_,fun ht=>?_⟩
 ·obtain ⟨cur,h1,h2,h3⟩:=h.cells ht
  exact ⟨cur,hb.trans h1,RL.flat _ _ hf h2,h3⟩
 ·obtain ⟨es,clock,h1,h2,h3⟩:=h.map ht
  exact ⟨es,clock,hb.trans h1,RM.flat _ _ hf h2,h3⟩
section
variable {P:Program} {n':Nat} {F:Fr} {st:St} {a:Act} {w:World} {pr:Nat->Nat->Prop} {lam:Nat->Option Nat}
theorem zl.own0 (h:zl P F st a w pr lam) {ss tk:Nat} {e:TypeId} {rows:List V} {sz:Nat} (hs:st.env ss = .list rows) (htk:st.tok ss = some (tk,e)) (hcl:tcl tk = 0) (hsz:sizeT P e = some sz) (hr:yL sz rows) (hne:rows ≠ []) :
  ∃ g cap cur,a.tmps.getD ss undef = .slice (some ⟨g,0,none⟩) rows.length cap/\rows.length <= cap/\cap <= maxLen/\zw 0 (a.tmps.getD ss undef) = some g/\F.mine g/\w.heap[g]? = some (.cells cur e (0,0))/\cur.size = cap * sz /\
   RR ⟨w,pr,lam⟩ g sz 0 rows/\(∀ o,rows.length * sz <= o->¬ pr g o):=by
 have hR:=h.env ss
 rw [hs] at hR
 simp only [R] at hR
 obtain ⟨base,cap,hv,hc,hm,hb⟩:=hR
 have hpos:0 < rows.length:=List.length_pos_iff.2 hne
 rcases hb with ⟨hb,_⟩ | ⟨b,o,k,rfl,hb⟩
 ·exact absurd hb hne
 have hg:zw (tcl tk) (a.tmps.getD ss undef) = some b:=by
  rw [hv,hcl]
  simp only [zw]
  rw [if_pos (.inl ⟨trivial,by omega⟩)]
 obtain ⟨q1,n,cap',cur,sz',q2,q3,q4,q5,q6⟩:=h.own ss tk e htk b hg
 rw [hv] at q2
 simp only [Value.slice.injEq,zvO,Addr.mk.injEq] at q2
 obtain ⟨⟨_,rfl,_⟩,rfl,rfl⟩:=q2
 have hss:sz' = sz:=by
  have:sizeT P e = some sz':=q4
  rw [hsz] at this; cases this; rfl
 subst hss
 obtain ⟨r,hr'⟩:=List.exists_mem_of_ne_nil rows hne
 have hk:=hb.size hr hr'
 subst hk
 exact ⟨b,cap,cur,hv,hc,hm,by rw [<- hcl]; exact hg,q1,q3,q5,hb,q6⟩
theorem gb3 {t:Nat} (h:2 <= tcl t) (x:Value):zw (tcl t) x = none:=by
 unfold zw
 split
 ·rw [if_neg (by omega)]
 ·rfl
theorem zuE {t:Nat} (h:tcl t = 0):tcl (t + 3000000) = 3:=by
 unfold tcl at *; omega
theorem zfy.ptr3 (h:zl P F st a w pr lam) {ss tk:Nat} {e e':TypeId} {g off:Nat} (htk:st.tok ss = some (tk,e')) (hcl:tcl tk = 0) (hg:zw 0 (a.tmps.getD ss undef) = some g) {v:V} :
  zfy P F st a w pr lam v (.pointer (some ⟨g,off,none⟩)) (tk + 3000000) e:=by
 have h3:=zuE hcl
 refine ⟨fun g' hg'=>?_,fun s t' e' g' _ _ hg'=>?_,fun i B b _ _ hg'=>?_,fun s e' _ hc=>?_,fun hc=>?_,fun s e' b o g' _ _ hg'=>?_,fun s u e'' b o g' hu hs hx hg'=>?_⟩
 ·rw [gb3 (by omega)] at hg'; cases hg'
 ·rw [gb3 (by omega)] at hg'; cases hg'
 ·rw [gb3 (by omega)] at hg'; cases hg'
 ·omega
 ·omega
 ·rw [gb3 (by omega)] at hg'; cases hg'
 ·have hut:u = tk:=by omega
  subst hut
  simp only [Value.pointer.injEq,zvO,Addr.mk.injEq] at hx
  obtain ⟨rfl,_,_⟩:=hx
  have:=h.coh2 ss s u e' e'' htk hs hcl
  rw [hcl,<- this,hg] at hg'
  cases hg'; rfl
theorem zkP {o:Oper} {K:St->Prop} {t e:TypeId} {ss tk sz:Nat} {ix:Operand} {rows:List V} {k:IntKind} {i:Int} (ho:o.op = .indexAddr t (.tmp ss) ix) (hs:st.env ss = .list rows) (htk:st.tok ss = some (tk,e)) (hcl:tcl tk = 0)
  (hi:st.eval ix = .int k i) (ht:P.underlying t = some (.slice e)) (hsz:sizeT P e = some sz) (hr:yL sz rows) (h0:0 <= i) (h1:i < rows.length) (hd:∀ d,o.dst = some d->d < n')
  (hk:K (st.put o.dst (.ptr (i.toNat * sz)) (some (tk + 3000000,e)))):Zl P n' o st K:=by
 intro F a w pr lam hF h next Q hn
 subst hF
 obtain ⟨g,cap,cur,hv,hc,hm,hg,hN,hgb,hcs,hrr,hpr⟩:=h.own0 hs htk hcl hsz hr (fun e=>by subst e; simp at h1; omega)
 have hi':=h.eval ix
 rw [hi] at hi'
 simp only [R] at hi'
 have hcond:0 <= i/\i < (rows.length:Int):=⟨h0,h1⟩
 have hv':a.eval (.tmp ss) = .slice (some ⟨g,0,none⟩) rows.length cap:=hv
 have hrun:(execOp a.eval o).run P w = .ok (.value (.pointer (some ⟨g,i.toNat * sz,none⟩))) w:=by
  simp only [execOp,ho,hv',hi']
  simp [Instr.indexAt,asIntOf,run_underlying ht,hcond,run_sizeOf hsz,Addr.add_none]
 unfold Oper.wp
 rw [hrun,Oper.upon_value]
 exact hn _ _ w pr lam hk (h.put hd (by simp only [R]; exact ⟨g,rfl⟩) (zfy.ptr3 h htk hcl hg))
theorem zkQ {o:Oper} {K:St->Prop} {s t:TypeId} {d0 fi off fo n tk:Nat} {e:TypeId} (ho:o.op = .fieldAddr s (.tmp d0) fi) (hs:st.env d0 = .ptr off) (htk:st.tok d0 = some (tk + 3000000,e)) (hcl:tcl tk = 0)
  (hf:fieldT P s fi = some (fo,t)) (hsz:sizeT P t = some n) (hn0:n ≠ 0) (hd:∀ d,o.dst = some d->d < n') (hk:K (st.put o.dst (.ptr (off + fo)) (some (tk + 3000000,e)))):Zl P n' o st K:=by
 intro F a w pr lam hF h next Q hn
 subst hF
 have hR:=h.env d0
 rw [hs] at hR
 simp only [R] at hR
 obtain ⟨b,hv⟩:=hR
 have hv':a.eval (.tmp d0) = .pointer (some ⟨b,off,none⟩):=hv
 have hrun:(execOp a.eval o).run P w = .ok (.value (.pointer (some ⟨b,off + fo,none⟩))) w:=by
  simp only [execOp,ho,hv']
  simp [run_fieldAt hf hsz hn0]
 unfold Oper.wp
 rw [hrun,Oper.upon_value]
 have h3:=zuE hcl
 refine hn _ _ w pr lam hk (h.put hd (by simp only [R]; exact ⟨b,rfl⟩) ⟨fun g' hg'=>?_,fun s t' e' g' _ _ hg'=>?_,fun i B b _ _ hg'=>?_,fun s e' _ hc=>?_,fun hc=>?_,fun s e' b o g' _ _ hg'=>?_,fun s u e'' b' o g' hu hs' hx hg'=>?_⟩)
 ·rw [gb3 (by omega)] at hg'; cases hg'
 ·rw [gb3 (by omega)] at hg'; cases hg'
 ·rw [gb3 (by omega)] at hg'; cases hg'
 ·omega
 ·omega
 ·rw [gb3 (by omega)] at hg'; cases hg'
 ·have hut:u = tk:=by omega
  subst hut
  simp only [Value.pointer.injEq,zvO,Addr.mk.injEq] at hx
  obtain ⟨rfl,_,_⟩:=hx
  exact h.ptr d0 s u e e'' _ _ g' htk hs' hv hg'
theorem zfQ {o:Oper} {K:St->Prop} {t e e':TypeId} {d0 ss tk sz j f n:Nat} {rows:List V} {r v:V} (ho:o.op = .load t (.tmp d0)) (hs:st.env d0 = .ptr (j * sz + f)) (htk:st.tok d0 = some (tk + 3000000,e')) (hcl:tcl tk = 0)
  (hss:st.env ss = .list rows) (htk':st.tok ss = some (tk,e)) (hsz:sizeT P e = some sz) (hr:yL sz rows) (hj:rows[j]? = some r) (hst:sizeT P t = some n)
  (hv:(aggT P t = some true/\f + n <= r.cellsL.length/\v = .agg ((r.cellsL.drop f).take n)) ∨ (aggT P t = some false/\r.cellsL[f]? = some v)) (hd:∀ d,o.dst = some d->d < n') (hk:K (st.put o.dst v none)):Zl P n' o st K:=by
 intro F a w pr lam hF h next Q hn
 subst hF
 have hne:rows ≠ []:=fun e=>by subst e; simp at hj
 obtain ⟨g,cap,cur,hvs,hc,hm,hg,hN,hgb,hcs,hrr,hpr⟩:=h.own0 hss htk' hcl hsz hr hne
 have hR:=h.env d0
 rw [hs] at hR
 simp only [R] at hR
 obtain ⟨b,hvd⟩:=hR
 have hbg:b = g:=h.ptr d0 ss tk e' e b _ g htk htk' hvd (by rw [hcl]; exact hg)
 subst hbg
 obtain ⟨y,q1,q2,q3⟩:=hrr.get j r hj
 have hcs':=hr r (zvu hj)
 obtain ⟨c1,c2⟩:=q1.cells hcs'
 have hlen:=c1.length
 have hvd':a.eval (.tmp d0) = .pointer (some ⟨b,j * sz + f,none⟩):=hvd
 have key:∃ x,(loadVar t ⟨b,j * sz + f,none⟩).run P w = .ok x w/\R ⟨w,pr,lam⟩ v x:=by
  rcases hv with ⟨ha,hfit,rfl⟩ | ⟨ha,hc⟩
  ·refine ⟨.agg ((y.cells.toList.drop f).take n).toArray,run_loadVar_agg ha (by rw [hst]; congr 1; simp only [List.length_take,List.length_drop]; omega) (fun q x hx=>?_),?_⟩
   ·rw [List.getElem?_take] at hx
    split at hx
    ·rw [List.getElem?_drop] at hx
     have:=(q3 (f + q) x (by simpa using hx)).1.1
     rw [Nat.zero_add] at this
     rwa [show j * sz + f + q = j * sz + (f + q) from by omega]
    ·cases hx
   ·simp only [R]
    exact ⟨_,rfl,(c1.drop f).take n,fun z hz=>c2 z (List.mem_of_mem_drop (List.mem_of_mem_take hz))⟩
  ·obtain ⟨x,hx,hrx⟩:=c1.get f v hc
   refine ⟨x,run_loadVar_one ha ?_,hrx⟩
   have:=(q3 f x (by simpa using hx)).1.1
   rwa [Nat.zero_add] at this
 obtain ⟨x,hx,hrx⟩:=key
 have hrun:(execOp a.eval o).run P w = .ok (.value x) w:=by
  simp only [execOp,ho,hvd']
  simp [Instr.loadAt,Instr.sureAddr,hx]
 unfold Oper.wp
 rw [hrun,Oper.upon_value]
 exact hn _ _ w pr lam hk (h.put hd hrx trivial)
def za7 (r:V) (f n:Nat) (y:V):V:=match r with
 | .agg cs=>.agg (cs.take f++y.cellsL++cs.drop (f + n))
 | _=>y
def yX (tk:Nat) (rows':List V) (x:V × Option (Nat × TypeId)):V × Option (Nat × TypeId) :=
 match x.2 with
 | some (t,e)=>if t = tk then (.list rows',x.2) else if tcl t = 2 then x else if x.1.flat = true then x else if tcl t = 0 then
   (match x.1 with | .list rs=>if V.flatL rs = true then x else (.any,none) | _=>(.any,none)) else (.any,none)
 | none=>if x.1.flat = true then x else (.any,none)
def St.changed (st:St) (tk:Nat) (rows':List V):St:={ st with sl:=fun s=>yX tk rows' (st.sl s) }
theorem ZJ (tk:Nat) (rows':List V) (x:V × Option (Nat × TypeId)) :
  (∃ e,x.2 = some (tk,e)/\yX tk rows' x = (.list rows',x.2)) ∨ yX tk rows' x = (.any,none) ∨
  (yX tk rows' x = x/\((∃ t e,x.2 = some (t,e)/\t ≠ tk/\(tcl t = 2 ∨ (tcl t = 0/\∃ rs,x.1 = .list rs/\V.flatL rs = true))) ∨ x.1.flat = true)/\∀ e,x.2 ≠ some (tk,e)):=by
 obtain ⟨v,tok⟩:=x
 unfold yX
 cases tok with
 | none =>
  simp only
  split
  ·rename_i h; exact .inr (.inr ⟨rfl,.inr h,fun e he=>by cases he⟩)
  ·exact .inr (.inl rfl)
 | some te =>
  obtain ⟨t,e⟩:=te
  simp only
  by_cases h1:t = tk
  ·rw [if_pos h1]; subst h1; exact .inl ⟨e,rfl,rfl⟩
  ·rw [if_neg h1]
   have hne:∀ e',(some (t,e):Option (Nat × TypeId)) ≠ some (tk,e'):=fun e' he=>by cases he; exact h1 rfl
   by_cases h2:tcl t = 2
   ·rw [if_pos h2]; exact .inr (.inr ⟨rfl,.inl ⟨t,e,rfl,h1,.inl h2⟩,hne⟩)
   ·rw [if_neg h2]
    by_cases h3:v.flat = true
    ·rw [if_pos h3]; exact .inr (.inr ⟨rfl,.inr h3,hne⟩)
    ·rw [if_neg h3]
     by_cases h4:tcl t = 0
     ·rw [if_pos h4]
      cases v with
      | list rs =>
       simp only
       split
       ·rename_i h5; exact .inr (.inr ⟨rfl,.inl ⟨t,e,rfl,h1,.inr ⟨h4,rs,rfl,h5⟩⟩,hne⟩)
       ·exact .inr (.inl rfl)
      | _=>exact .inr (.inl rfl)
     ·rw [if_neg h4]; exact .inr (.inl rfl)
theorem zl.changed (h:zl P F st a w pr lam) {w':World} {ss tk:Nat} {e:TypeId} {g cap sz:Nat} {rows rows':List V} {cur cur':Array Value} (htk:st.tok ss = some (tk,e)) (hcl:tcl tk = 0)
  (hv:a.tmps.getD ss undef = .slice (some ⟨g,0,none⟩) rows.length cap) (hg:zw 0 (a.tmps.getD ss undef) = some g) (hN:F.mine g) (hw:zfk w w' g) (hcur:w.heap[g]? = some (.cells cur e (0,0))) (hcur':w'.heap[g]? = some (.cells cur' e (0,0)))
  (hsize:cur'.size = cur.size) (hbf:∀ i B,st.box i = some B->V.flatL B.cells = true) (hlen:rows'.length = rows.length) (hc:rows.length <= cap) (hm:cap <= maxLen)
  (hrr:RR ⟨w',pr,lam⟩ g sz 0 rows'):zl P F (st.changed tk rows') a w' pr lam:=by
 have htok:∀ s t e',(st.changed tk rows').tok s = some (t,e')->st.tok s = some (t,e'):=by
  intro s t e' hs
  change (yX tk rows' (st.sl s)).2 = some (t,e') at hs
  rcases ZJ tk rows' (st.sl s) with ⟨e0,_,q⟩ | q | ⟨q,_⟩ <;> rw [q] at hs
  ·exact hs
  ·cases hs
  ·exact hs
 have hold:∀ b o,F.pr0 b o->w'.cell? ⟨b,o,none⟩ = w.cell? ⟨b,o,none⟩:=fun b o hp=>hw.cell (fun e=>by
  subst e
  exact F.mine_pr hN hp)
 refine ⟨h.size,h.defers,fun s=>?_,fun s t e' hs=>?_,fun s s' t t' e e' g hs hs'=>h.coh s s' t t' e e' g (htok _ _ _ hs) (htok _ _ _ hs'),fun i B hB=>?_,h.inj,fun i B b s t e hB hl hs=>h.apart i B b s t e hB hl (htok _ _ _ hs),h.nolam,?_,?_,h.prsub,h.prnew,h.lamsub,
  fun s s' t e e' hs hs'=>h.coh2 s s' t e e' (htok _ _ _ hs) (htok _ _ _ hs'),fun s t e' hs hc=>?_,fun s s' t e e' b o g hs hs'=>h.ptr s s' t e e' b o g (htok _ _ _ hs) (htok _ _ _ hs')⟩
 ·change R _ (yX tk rows' (st.sl s)).1 _
  rcases ZJ tk rows' (st.sl s) with ⟨e0,hs,q⟩ | q | ⟨q,hcase,_⟩
  ·rw [q]
   have:a.tmps.getD s undef = a.tmps.getD ss undef:=h.coh2 s ss tk e0 e hs htk hcl
   rw [this,hv]
   simp only [R]
   exact ⟨_,cap,by rw [hlen],by omega,hm,.inr ⟨g,0,sz,rfl,hrr⟩⟩
  ·rw [q]; simp [R]
  ·rw [q]
   rcases hcase with ⟨t,e',hs,hne,h2 | ⟨h0,rs,hrs,hfl⟩⟩ | hfl
   ·have:=h.old s t e' hs h2
    exact R.mono (E:=⟨w',F.pr0,lam⟩) (E':=⟨w',pr,lam⟩) ⟨fun _ _ h=>h,h.prsub,fun _ _ _=>rfl⟩ _ _ (this.old (fun _ _ h=>h) hold)
   ·have hR:=h.env s
    change R _ (st.sl s).1 _ at hR
    rw [hrs] at hR ⊢
    simp only [R] at hR ⊢
    obtain ⟨base,cap2,e1,c1,c2,hb⟩:=hR
    refine ⟨base,cap2,e1,c1,c2,?_⟩
    rcases hb with hb | ⟨b,o,k,e2,hb⟩
    ·exact .inl hb
    ·refine .inr ⟨b,o,k,e2,?_⟩
     by_cases hrs0:rs = []
     ·subst hrs0; simp [RR]
     have hpos:0 < rs.length:=List.length_pos_iff.2 hrs0
     have hgb:zw (tcl t) (a.tmps.getD s undef) = some b:=by
      rw [e1,e2,h0]
      simp only [zw]
      rw [if_pos (.inl ⟨trivial,by omega⟩)]
     have hbg:b ≠ g:=by
      rintro rfl
      exact hne (h.coh s ss t tk e' e b hs htk hgb (by rw [hcl]; exact hg))
     refine RR.of_get fun i r hi=>?_
     obtain ⟨y,p1,p2,p3⟩:=hb.get i r hi
     refine ⟨y,R.flat r y (ZI hfl r (zvu hi)) p1,p2,fun j z hz=>?_⟩
     obtain ⟨p4,p5⟩:=p3 j z hz
     exact ⟨⟨(hw.cell hbg).trans p4.1,p4.2⟩,p5⟩
   ·exact R.flat _ _ hfl (h.env s)
 ·intro g' hg'
  obtain ⟨r1,n,cap',cu,sz',r2,r3,r4,r5,r6⟩:=h.own s t e' (htok s t e' hs) g' hg'
  by_cases hgg:g' = g
  ·subst hgg
   have r3':w.heap[g']? = some (.cells cu e' (0,0)):=r3
   rw [hcur] at r3'
   simp only [zvO,Obj.cells.injEq,and_true] at r3'
   obtain ⟨rfl,rfl⟩:=r3'
   exact ⟨r1,n,cap',cur',sz',r2,hcur',r4,by rw [hsize]; exact r5,r6⟩
  ·exact ⟨r1,n,cap',cu,sz',r2,(hw.block g' hgg).trans r3,r4,r5,r6⟩
 ·obtain ⟨b,r1,r2,r5,r6⟩:=h.box i B hB
  have hbg:b ≠ g:=by
   rintro rfl
   exact h.apart i B b ss tk e hB r1 htk (by rw [hcl]; exact hg)
  exact ⟨b,r1,Zu.flat (hw.block b hbg) (hbf i B hB) r2,r5,r6⟩
 ·intro b o hp; rw [hw.size]; exact h.prlt b o hp
 ·refine ⟨hw.os.trans h.keep.os,hw.tape.trans h.keep.tape,hw.output.trans h.keep.output,h.keep.drawn.trans hw.drawn,by rw [hw.size]; exact h.keep.size,fun k hk hn hh=>?_⟩
  have hne:k ≠ g:=F.mine_keep hN hk hh
  rw [hw.block k hne]
  exact h.keep.block k hk hn hh
 ·have hs':=htok s t e' hs
  have hhold:=h.old s t e' hs' hc
  change R _ (yX tk rows' (st.sl s)).1 _
  change (yX tk rows' (st.sl s)).2 = some (t,e') at hs
  rcases ZJ tk rows' (st.sl s) with ⟨e0,h1,q⟩ | q | ⟨q,_⟩
  ·exfalso
   have h1':st.tok s = some (tk,e0):=h1
   rw [hs'] at h1'
   cases h1'
   omega
  ·rw [q] at hs; cases hs
  ·rw [q]; exact hhold.old (fun _ _ h=>h) hold
theorem zkR {o:Oper} {K:St->Prop} {t e e':TypeId} {d0 ss tk sz j f n:Nat} {x:Operand} {rows:List V} {r v:V} (ho:o.op = .store t (.tmp d0) x) (hs:st.env d0 = .ptr (j * sz + f)) (htk:st.tok d0 = some (tk + 3000000,e')) (hcl:tcl tk = 0)
  (hss:st.env ss = .list rows) (htk':st.tok ss = some (tk,e)) (hsz:sizeT P e = some sz) (hr:yL sz rows) (hfr:V.flatL rows = true) (hj:rows[j]? = some r) (hst:sizeT P t = some n) (hx:st.eval x = v) (hvn:v.csize = some n) (hvf:v.flat = true)
  (hfit:f + n <= sz) (hag:isAgg r = true ∨ (isAgg r = false/\isAgg v = false/\f = 0/\n = 1)) (hbf:∀ i B,st.box i = some B->V.flatL B.cells = true) (hd:o.dst = none) (hk:K (st.changed tk (rows.set j (za7 r f n v)))):Zl P n' o st K:=by
 intro F a w pr lam hF h next Q hn
 subst hF
 have hne:rows ≠ []:=fun e=>by subst e; simp at hj
 obtain ⟨g,cap,cur,hvs,hc,hm,hg,hN,hgb,hcs,hrr,hpr⟩:=h.own0 hss htk' hcl hsz hr hne
 have hR:=h.env d0
 rw [hs] at hR
 simp only [R] at hR
 obtain ⟨b,hvd⟩:=hR
 have hbg:b = g:=h.ptr d0 ss tk e' e b _ g htk htk' hvd (by rw [hcl]; exact hg)
 subst hbg
 have hjlt:j < rows.length:=(List.getElem?_eq_some_iff.1 hj).1
 have hvd':a.eval (.tmp d0) = .pointer (some ⟨b,j * sz + f,none⟩):=hvd
 have hy:=h.eval x
 rw [hx] at hy
 obtain ⟨r1,r2⟩:=hy.cells hvn
 have hys:=hy.csize hvn
 have hbound:(j + 1) * sz <= cap * sz:=Nat.mul_le_mul_right _ (by omega)
 rw [Nat.add_mul,Nat.one_mul] at hbound
 have hfit':j * sz + f + n <= cur.size:=by omega
 have hrun:(execOp a.eval o).run P w = .ok .skip (w.setRow b (cur.toList.take (j * sz + f)++(a.eval x).cells.toList++cur.toList.drop (j * sz + f + n)).toArray):=by
  simp only [execOp,ho,hvd']
  simp only [Instr.storeAt,Instr.sureAddr,Sem.run_bind,Sem.run_pure,Result.andThen_ok,zcY hst hys hgb hfit' r2]
 unfold Oper.wp
 rw [hrun,Oper.upon_skip,hd]
 generalize hcur':(cur.toList.take (j * sz + f)++(a.eval x).cells.toList++cur.toList.drop (j * sz + f + n)).toArray = cur'
 have hylen:(a.eval x).cells.toList.length = n:=by simpa using hys
 have hget:∀ q:Nat,cur'[q]? = if q < j * sz + f then cur[q]? else if q < j * sz + f + n then (a.eval x).cells.toList[q - (j * sz + f)]? else cur[q]?:=by
  intro q
  rw [<- hcur']
  have hmin:min (j * sz + f) cur.size = j * sz + f:=by omega
  simp only [List.getElem?_toArray,List.getElem?_append,zvQ,List.length_take,Array.length_toList,hmin,List.getElem?_take,List.getElem?_drop,Array.getElem?_toList,hys]
  by_cases c1:q < j * sz + f
  ·simp [c1]; omega
  ·by_cases c2:q < j * sz + f + n
   ·simp [c1,c2]
   ·simp only [c1,c2,if_false]
    congr 1; omega
 have hsize:cur'.size = cur.size:=by
  rw [<- hcur']
  simp [hys]; omega
 have hset:(w.setRow b cur').heap[b]? = some (.cells cur' e (0,0)):=setRow_heap w b cur cur' e (0,0) hgb
 have hcell:∀ q,(w.setRow b cur').cell? ⟨b,q,none⟩ = cur'[q]?:=fun q=>cell_setRow_same w b q cur cur' e (0,0) hgb
 have hcell0:∀ q,w.cell? ⟨b,q,none⟩ = cur[q]?:=fun q=>by simp [World.cell?,hgb]
 refine hn _ _ _ pr lam hk (h.changed (sz:=sz) htk' hcl hvs hg hN (zfk.setRow w b cur') hgb hset hsize hbf (by simp) hc hm ?_)
 refine RR.of_get fun i ri hi=>?_
 rw [List.getElem?_set] at hi
 by_cases hij:j = i
 ·subst hij
  rw [if_pos rfl,if_pos hjlt] at hi
  cases hi
  obtain ⟨y0,p1,p2,p3⟩:=hrr.get j r hj
  have hrsz:=hr r (zvu hj)
  obtain ⟨c1,c2⟩:=p1.cells hrsz
  have hy0:y0.cells.toList.length = sz:=by simpa using p2
  have hnew:∃ z:Value,R ⟨w.setRow b cur',pr,lam⟩ (za7 r f n v) z/\z.cells.toList = y0.cells.toList.take f++(a.eval x).cells.toList++y0.cells.toList.drop (f + n):=by
   rcases hag with hag | ⟨hag,hav,rfl,rfl⟩
   ·cases r with
    | agg cs =>
     refine ⟨.agg (y0.cells.toList.take f++(a.eval x).cells.toList++y0.cells.toList.drop (f + n)).toArray,?_,by simp [Value.cells]⟩
     simp only [za7,R]
     have hfr':=ZI hfr _ (zvu hj)
     simp only [V.flat] at hfr'
     refine ⟨_,rfl,?_,fun z hz=>?_⟩
     ·simp only [V.cellsL] at c1
      have k1:RL ⟨w.setRow b cur',pr,lam⟩ cs y0.cells.toList:=RL.flat _ _ hfr' c1
      have k2:RL ⟨w.setRow b cur',pr,lam⟩ v.cellsL (a.eval x).cells.toList:=(R.cells (R.flat v _ hvf hy) hvn).1
      exact ((k1.take f).append k2).append (k1.drop (f + n))
     ·simp only [zvA] at hz
      rcases hz with (hz | hz) | hz
      ·exact c2 z (List.mem_of_mem_take hz)
      ·exact r2 z hz
      ·exact c2 z (List.mem_of_mem_drop hz)
    | _=>simp [isAgg] at hag
   ·have hsz1:sz = 1:=by
     have:=hrsz
     cases r <;> simp [V.csize] at this <;> first | omega | (simp [isAgg] at hag)
    refine ⟨a.eval x,?_,?_⟩
    ·have:za7 r 0 1 v = v:=by cases r <;> first | rfl | (simp [isAgg] at hag)
     rw [this]; exact R.flat v _ hvf hy
    ·rw [List.drop_eq_nil_of_le (by omega)]; simp
  obtain ⟨z,hz1,hz2⟩:=hnew
  refine ⟨z,hz1,?_,fun q u hq=>?_⟩
  ·have:z.cells.toList.length = sz:=by rw [hz2]; simp [hys]; omega
   simpa using this
  ·have hq':(y0.cells.toList.take f++(a.eval x).cells.toList++y0.cells.toList.drop (f + n))[q]? = some u:=by rw [<- hz2]; simpa using hq
   have hqlt:q < sz:=by
    have:=(List.getElem?_eq_some_iff.1 hq').1
    simp [hys] at this; omega
   have hprq:pr b (0 + j * sz + q):=by
    have:∃ z0,y0.cells[q]? = some z0:=⟨y0.cells[q]'(by simpa [<- p2] using hqlt),by simp⟩
    obtain ⟨z0,hz0⟩:=this
    exact (p3 q z0 hz0).1.2
   have hone:u.oneCell' = true:=by
    have:=zvu hq'
    simp only [zvA] at this
    rcases this with (hz | hz) | hz
    ·exact c2 u (List.mem_of_mem_take hz)
    ·exact r2 u hz
    ·exact c2 u (List.mem_of_mem_drop hz)
   refine ⟨⟨?_,hprq⟩,hone⟩
   show (w.setRow b cur').cell? _ = _
   rw [Nat.zero_add,hcell,hget]
   simp only [List.getElem?_append,zvQ,List.length_take,hy0,hylen,List.getElem?_take,List.getElem?_drop] at hq'
   have hmin:min f sz = f:=by omega
   rw [hmin] at hq'
   by_cases d1:q < f
   ·rw [if_pos (by omega:q < f + n),if_pos d1,if_pos d1] at hq'
    rw [if_pos (by omega)]
    have:=(p3 q u (by simpa using hq')).1.1
    rw [Nat.zero_add] at this
    change w.cell? _ = _ at this
    rwa [hcell0] at this
   ·by_cases d2:q < f + n
    ·rw [if_pos d2,if_neg d1] at hq'
     rw [if_neg (by omega),if_pos (by omega)]
     rw [show j * sz + q - (j * sz + f) = q - f from by omega]
     exact hq'
    ·rw [if_neg d2] at hq'
     rw [if_neg (by omega),if_neg (by omega)]
     rw [show f + n + (q - (f + n)) = q from by omega] at hq'
     have:=(p3 q u (by simpa using hq')).1.1
     rw [Nat.zero_add] at this
     change w.cell? _ = _ at this
     rwa [hcell0] at this
 ·rw [if_neg hij] at hi
  obtain ⟨y,p1,p2,p3⟩:=hrr.get i ri hi
  refine ⟨y,R.flat ri y (ZI hfr ri (zvu hi)) p1,p2,fun q z hq=>?_⟩
  obtain ⟨p4,p5⟩:=p3 q z hq
  refine ⟨⟨?_,p4.2⟩,p5⟩
  have hqlt:q < sz:=by
   have:=(Array.getElem?_eq_some_iff.1 hq).1
   omega
  have p41:w.cell? ⟨b,0 + i * sz + q,none⟩ = some z:=p4.1
  show (w.setRow b cur').cell? _ = _
  rw [hcell,hget]
  rw [hcell0] at p41
  rw [Nat.zero_add] at p41 ⊢
  rcases Nat.lt_or_ge i j with d | d
  ·have:(i + 1) * sz <= j * sz:=Nat.mul_le_mul_right _ d
   rw [Nat.add_mul,Nat.one_mul] at this
   rw [if_pos (by omega)]; exact p41
  ·have:(j + 1) * sz <= i * sz:=Nat.mul_le_mul_right _ (by omega)
   rw [Nat.add_mul,Nat.one_mul] at this
   rw [if_neg (by omega),if_neg (by omega)]; exact p41
theorem YW (z:Value):∀ (n j:Nat),(zk (List.replicate n z))[j]? = if j < n * z.cells.size then z.cells[j % z.cells.size]? else none
 | 0,j=>by simp [zk]
 | n + 1,j=>by
  have e:zk (List.replicate (n + 1) z) = z.cells.toList++zk (List.replicate n z):=by simp [zk,List.replicate_succ]
  rw [e,List.getElem?_append,YW z n]
  rw [Nat.add_mul,Nat.one_mul]
  have hl:z.cells.toList.length = z.cells.size:=by simp
  rw [hl]
  by_cases h:j < z.cells.size
  ·rw [if_pos h,if_pos (by omega),Nat.mod_eq_of_lt h]; simp
  ·rw [if_neg h]
   have hm:(j - z.cells.size) % z.cells.size = j % z.cells.size:=(Nat.mod_eq_sub_mod (by omega)).symm
   rw [hm]
   by_cases h2:j - z.cells.size < n * z.cells.size
   ·rw [if_pos h2,if_pos (by omega)]
   ·rw [if_neg h2,if_neg (by omega)]
theorem zfR {o:Oper} {K:St->Prop} {t e:TypeId} {xl xc:Operand} {kl kc:IntKind} {l c:Int} {sz by' tk:Nat} {zv:V} (ho:o.op = .makeSlice t xl xc) (hl:st.eval xl = .int kl l) (hc:st.eval xc = .int kc c) (ht:P.underlying t = some (.slice e))
  (hsz:sizeT P e = some sz) (hby:bytesT P e = some by') (hz:zeroT P e = some zv) (hzs:zv.csize = some sz) (h0:0 <= l) (hlc:l <= c) (hb:(by':Int) * c <= 281474976710656) (hm:c <= maxLen) (htk:tcl tk = 0)
  (hd:∀ d,o.dst = some d->d < n') (hk:K ((st.clear tk).put o.dst (.list (List.replicate l.toNat zv)) (some (tk,e)))):Zl P n' o st K:=by
 intro F a w pr lam hF h next Q hn
 subst hF
 obtain ⟨i,z,i1,i2,i3,i4,i5⟩:=zqI hsz hby hz
 have hl':=h.eval xl
 have hc':=h.eval xc
 rw [hl] at hl'; rw [hc] at hc'
 simp only [R] at hl' hc'
 have hzR:=Zv ⟨w,pr,lam⟩ z
 rw [i5] at hzR
 have hzc:z.cells.size = sz:=hzR.csize hzs
 have hcn:c.toNat <= maxLen:=by omega
 have hrun:=Go.run_make (P:=P) w t e i z ht i1 i4 kl kc l c h0 hlc (by rw [i3]; exact hb) (by simp only [maxLen] at hm; omega)
 rw [i2] at hrun
 have hex:(execOp a.eval o).run P w = .ok (.value (.slice (some ⟨w.heap.size,0,none⟩) l.toNat c.toNat)) (w.alloc (.cells (Go.madeCells z.cells (c.toNat * sz)) e)):=by
  simp only [execOp,ho,hl',hc']
  simp [hrun]
 unfold Oper.wp
 rw [hex,Oper.upon_value]
 have hrl:RL ⟨w,pr,lam⟩ (List.replicate l.toNat zv) (List.replicate l.toNat z):=by
  refine RL.of_get (by simp) fun q u x hu hx=>?_
  rw [List.getElem?_replicate] at hu hx
  split at hu
  ·cases hu
   rw [if_pos ‹_›] at hx
   cases hx
   exact hzR
  ·cases hu
 have hll:(zk (List.replicate l.toNat z)).length = l.toNat * sz:=by
  rw [ye (k:=sz) (by intro y hy; rw [List.mem_replicate] at hy; rw [hy.2]; exact hzc)]; simp
 obtain ⟨q1,q2⟩:=zcZ (sz:=sz) (cap:=c.toNat) (e:=e) (fz:=(0,0)) (lam:=lam) (rows:=List.replicate l.toNat zv) (ys:=List.replicate l.toNat z) (arr:=Go.madeCells z.cells (c.toNat * sz)) h.prlt
  ((Below.refl _ w).alloc (zvF _) (.cells (Go.madeCells z.cells (c.toNat * sz)) e)) (DLE.of_eq rfl) (by simp) (heap_alloc_new w _) hrl (by intro y hy; rw [List.mem_replicate] at hy; rw [hy.2]; exact hzc)
  (fun u hu=>by
   obtain ⟨j,hj⟩:=List.mem_iff_getElem?.1 hu
   rw [YW] at hj
   split at hj
   ·obtain ⟨_,c2⟩:=hzR.cells hzs
    exact c2 u (by simpa using Array.mem_of_getElem? hj)
   ·cases hj)
  (fun j u hj=>by
   rw [YW] at hj
   split at hj
   ·rename_i hjl
    rw [hzc] at hjl hj
    have hle:l.toNat * sz <= c.toNat * sz:=Nat.mul_le_mul_right _ (by omega)
    have hjc:j < c.toNat * sz:=by omega
    simp only [Go.madeCells,Array.getElem?_map,hzc]
    rw [Array.getElem?_range,if_pos hjc]
    simp only [Option.map_some,zvO]
    rw [getElem!_def,hj]
   ·cases hj)
  (by simp; omega) hcn
 refine hn _ _ _ _ lam hk (((h.ext q1).clear tk).put hd (by simpa using q2) ?_)
 refine zf4.fresh h q1 tk (by omega) (fun g hg=>?_)
 have hgg:g = w.heap.size:=by
  simp only [zw] at hg
  split at hg
  ·cases hg; rfl
  ·cases hg
 subst hgg
 refine ⟨zvF _,l.toNat,c.toNat,_,sz,rfl,heap_alloc_new w _,hsz,Go.size_madeCells _ _,fun o ho' hp=>?_⟩
 rcases hp with hp | ⟨_,hp⟩
 ·have:=h.prlt _ _ hp; omega
 ·rw [hll] at hp; omega
end
end Go.Eng
namespace Go.Eng
open Go.RowKit
def St.newBox (st:St) (cs:List V) (ty:TypeId):St:={ st with nb:=st.nb + 1,box:=upd st.box st.nb (some ⟨cs,ty⟩) }
def zqo (st:St) (e:TypeId) (v:V) (dst:Option Nat) (K:St->Prop):Prop :=
 e < 1000000000/\v.csize.isSome = true/\st.box st.nb = none/\K ((st.newBox v.cellsL e).put dst (.loc st.nb 0) none)
def Qs (P:Program) (t:TypeId) (st:St) (x y:V) (dst:Option Nat) (K:St->Prop):Prop :=
 match x with
 | .loc i off=>(match st.box i,sizeT P t with
  | some B,some n=>B.ty < 1000000000/\y.csize = some n/\off + n <= B.cells.length/\dst = none/\K (st.setBox i ⟨B.cells.take off++y.cellsL++B.cells.drop (off + n),B.ty⟩)
  | _,_=>False)
 | _=>False
def Ys (P:Program) (st:St) (ss:Nat) (x:V) (t u:TypeId) (dst:Option Nat) (K:St->Prop):Prop :=
 match st.env ss,st.tok ss,yZ P t with
 | .list rows,some (tk,e),some e'=>(match sizeT P e,bytesT P e,zeroT P e with
  | some sz,some by',some zv=>(e = e'/\tcl tk < 2/\srcT P u = true/\zv.csize = some sz/\by' ≠ 0)/\yL sz rows/\(match x with
   | .list rows2=>yL sz rows2/\(rows.length + rows2.length) * by' <= 140737488355328/\K ((st.clear tk).put dst (.list (rows++rows2)) (some (tk,e)))
   | .str l=>sz = 1/\(rows.length + l.length) * by' <= 140737488355328/\K ((st.clear tk).put dst (.list (rows++yS l)) (some (tk,e)))
   | _=>False)
  | _,_,_=>False)
 | _,_,_=>False
def zoq (st:St) (t:TypeId) (dst:Option Nat) (K:St->Prop):Prop :=
 st.box st.nb = none/\K ((st.newBox [] (1000000000 + t)).put dst (.mref st.nb) none)
def za8 (P:Program) (t:TypeId) (st:St) (m x y:V) (dst:Option Nat) (K:St->Prop):Prop :=
 match m,mapT P t with
 | .mref i,some (kt,_)=>(match st.box i,keyT P kt with
  | some B,some (ag,ks)=>1000000000 <= B.ty/\KeyT P kt/\Yu ag ks x/\Z0 ag ks B.cells/\dst = none/\K (st.setBox i ⟨ZC B.cells x y,B.ty⟩)
  | _,_=>False)
 | _,_=>False
def zfv (P:Program) (dr:Bool) (st:St) (f:V) (args:List V) (dst:Option Nat) (K:St->Prop):Prop :=
 match f with
 | .fn (.func g) first cap=>zmF P g (first++args++cap) (fun v=>K (st.put dst v none)) ∨ (dr = false/\zjq P g (first++args++cap) st dst K)
 | _=>False
def zja (o:Oper) (st:St) (v:V) (tk:Option (Nat × TypeId)):St :=
 bif yk o then st.put o.dst v tk else (st.fresh tk).put o.dst v tk
def Y2 (o:Oper):Bool:=match o.op with
 | .assign (.const (.slice none 0 0))=>true
 | .buildSlice .. | .slice ..=>true
 | _=>false
def zih (dr:Bool) (o:Oper) (tk:Option (Nat × TypeId)):Prop:=dr = true->yk o = false->∀ t e,tk = some (t,e)->Y2 o = true/\o.dst = some (t % 1000000)/\tcl t < 2
def YK (P:Program) (o:Oper) (st:St) (K:St->Prop):Prop:=∀ n',(∀ d,o.dst = some d->d < n')->(∀ d,o.dst = some d->d < 1000000)->Zl P n' o st K
def Zq (P:Program) (dr:Bool) (o:Oper) (st:St) (K:St->Prop):Prop :=
 match o.op with
 | .box e x=>zqo st e (st.eval x) o.dst K
 | .alloc e=>(match zeroT P e with | some v=>zqo st e v o.dst K | none=>False)
 | .store t x y=>Qs P t st (st.eval x) (st.eval y) o.dst K
 | .call { callee:=.builtin .append,args,argTypes }=>(match args.toList,argTypes.toList with
  | [.tmp ss,x],[t,u]=>Ys P st ss (st.eval x) t u o.dst K
  | _,_=>False)
 | .makeMap t none=>zoq st t o.dst K
 | .mapUpdate t m x y=>za8 P t st (st.eval m) (st.eval x) (st.eval y) o.dst K
 | .call { callee:=.value f,args,.. }=>zfv P dr st (st.eval f) (args.toList.map st.eval) o.dst K
 | _=>qG P o st fun v tk=>zih dr o tk/\K (zja o st v tk)
def zcj (P:Program) (dr:Bool) (o:Oper) (st:St) (K:St->Prop):Prop:=Zq P dr o st K ∨ (dr = false/\YK P o st K)
def Zr (n:Nat) (o:Oper):Bool:=match o.dst with | some d=>decide (d < n) && decide (d < 1000000) | none=>true
section
variable {P:Program} {n':Nat} {dr:Bool} {o:Oper} {st:St} {K:St->Prop}
theorem yO {n:Nat} (h:Zr n o = true):∀ d,o.dst = some d->d < n:=by
 intro d hd
 simp [Zr,hd] at h
 exact h.1
theorem za9 {n:Nat} (h:Zr n o = true):∀ d,o.dst = some d->d < 1000000:=by
 intro d hd
 simp [Zr,hd] at h
 exact h.2
theorem zqp {v:V} {tk:Option (Nat × TypeId)} (h:QVF P o st.eval st.tokOf st.box v tk) (hd:∀ d,o.dst = some d->d < n') (hk:K (zja o st v tk)):Zl P n' o st K:=by
 unfold zja at hk
 rcases h with ⟨hc,fr,hq,ht⟩ | ⟨hc,x,hx,rfl,rfl⟩
 ·rw [hc] at hk
  exact qz hq ht hd hk
 ·rw [hc] at hk
  exact zdU hx hd hk
theorem zqq {v:V} {tk:Option (Nat × TypeId)} (h:QVT P o st.eval st.tokOf st.box v tk) (hd:∀ d,o.dst = some d->d < n') (hk:K (st.put o.dst v tk)):Zl P n' o st K:=by
 rcases h with ⟨fr,hq,ht⟩ | ⟨x,hx,rfl,rfl⟩
 ·subst ht
  exact qz hq (tk:=none) (fun _ _ h=>by cases h) hd hk
 ·exact zdU hx hd hk
theorem zl.nb {F:Fr} {a:Act} {w:World} {pr:Nat->Nat->Prop} {lam:Nat->Option Nat} (h:zl P F st a w pr lam) (n:Nat):zl P F { st with nb:=n } a w pr lam :=
 ⟨h.size,h.defers,h.env,h.own,h.coh,h.box,h.inj,h.apart,h.nolam,h.prlt,h.keep,h.prsub,h.prnew,h.lamsub,h.coh2,h.old,h.ptr⟩
theorem zjb (h:Zl P n' o st fun st'=>K { st' with nb:=st'.nb + 1 }):Zl P n' o st K:=by
 intro F a w pr lam hF hs next Q hn
 exact h F a w pr lam hF hs next Q fun st' a' w' pr' lam' hk hs'=>hn _ a' w' pr' lam' hk (hs'.nb _)
theorem ZB (hd:Zr n' o = true) (h:zcj P dr o st K):Zl P n' o st K:=by
 have hd':=yO hd
 rcases h with h | ⟨_,h⟩
 rotate_left
 ·exact h n' hd' (za9 hd)
 unfold Zq at h
 split at h
 ·rename_i e x ho
  obtain ⟨h0,h1,h2,h3⟩:=h
  obtain ⟨n,hn⟩:=Option.isSome_iff_exists.1 h1
  refine zjb (zk7 ho rfl hn h2 h0 hd' ?_)
  cases hq:o.dst <;> (rw [hq] at h3; exact h3)
 ·rename_i e ho
  split at h
  ·rename_i v hz
   obtain ⟨h0,h1,h2,h3⟩:=h
   obtain ⟨n,hn⟩:=Option.isSome_iff_exists.1 h1
   refine zjb (zga ho hz hn h2 h0 hd' ?_)
   cases hq:o.dst <;> (rw [hq] at h3; exact h3)
  ·exact h.elim
 ·rename_i t x y ho
  unfold Qs at h
  split at h
  ·rename_i i off hx
   split at h
   ·rename_i B n hB hs
    exact zmZ ho hx rfl hB h.2.1 hs h.2.2.1 h.1 h.2.2.2.1 h.2.2.2.2
   ·exact h.elim
  ·exact h.elim
 ·rename_i args tys ho
  split at h
  ·rename_i ss x t u ha ht
   have ea:args = #[.tmp ss,x]:=by obtain ⟨l⟩:=args; simpa using ha
   have et:tys = #[t,u]:=by obtain ⟨l⟩:=tys; simpa using ht
   subst ea; subst et
   unfold Ys at h
   split at h
   ·rename_i rows tk e e' hr htk hT
    split at h
    ·rename_i sz by' zv hs hb hz
     obtain ⟨⟨rfl,hcl,h1,h2,h2b⟩,h3,h4⟩:=h
     have hmax:∀ m:Nat,m * by' <= 140737488355328->m <= maxLen:=by
      intro m hm
      have:m * 1 <= m * by':=Nat.mul_le_mul_left _ (Nat.one_le_iff_ne_zero.2 h2b)
      simp only [maxLen]; omega
     split at h4
     ·rename_i rows2 hx
      obtain ⟨h5,h6,h7⟩:=h4
      exact zaT ho hr htk hcl (z7 hT) h1 hs hb hz h2 h3 (fun w pr lam xv hxv=>Src.list (by rw [hx] at hxv; exact hxv) h5) h6 (hmax _ h6) hd' h7
     ·rename_i l hx
      obtain ⟨h5,h6,h7⟩:=h4
      subst h5
      have hl:(yS l).length = l.length:=by simp [yS]
      exact zaT ho hr htk hcl (z7 hT) h1 hs hb hz h2 h3 (fun w pr lam xv hxv=>Src.str (by rw [hx] at hxv; exact hxv)) (by rw [hl]; exact h6) (by rw [hl]; exact hmax _ h6) hd' h7
     ·exact h4.elim
    ·exact h.elim
   ·exact h.elim
  ·exact h.elim
 ·rename_i t ho
  obtain ⟨h1,h2⟩:=h
  refine zjb (zjp ho h1 hd' ?_)
  cases hq:o.dst <;> (rw [hq] at h2; exact h2)
 ·rename_i t m x y ho
  unfold za8 at h
  split at h
  ·rename_i i kt et hm hT
   split at h
   ·rename_i B ag ks hB hk
    exact zbf ho hm hB h.1 hT hk h.2.1 h.2.2.1 h.2.2.2.1 h.2.2.2.2.1 h.2.2.2.2.2
   ·exact h.elim
  ·exact h.elim
 ·rename_i f args tys ho
  unfold zfv at h
  split at h
  ·rename_i g first cap hf
   rcases h with ⟨h1,h2,res,h3,h4⟩ | ⟨_,h⟩
   ·exact zqq (.inl ⟨none,zjo ho hf h1 h2 h3,rfl⟩) hd' h4
   ·exact zm0 ho hf hd' h
  ·exact h.elim
 ·obtain ⟨v,tk,hq,hk⟩:=zeC (za9 hd) h
  exact zqp hq hd' hk.2
end
end Go.Eng
namespace Go.Eng
open Go.RowKit
section
variable {P:Program} {w:World} {t kt et:TypeId} {b:Nat} {es:Array MapEntry} {clock:Nat}
open Go.WideElems in
theorem zsz (K:Maps.Keyed P kt) (ht:P.underlying t = some (.map kt et)) {z:Value} (hz:∀ u:World,(zeroValue et).run P u = .ok z u) (hb:w.heap[b]? = some (.map es clock))
  (hst:MapKept.Stamped es clock) (hkeys:∀ e ∈ es.toList,∃ l,keyOf P kt e.key = some l) {key:Value} {kl:Lit} (hkey:keyOf P kt key = some kl) :
  ∃ (v0:Value) (st:Nat) (es1:Array MapEntry) (clock1:Nat),(Instr.mapEntry t (.map (some b)) key).run P w = .ok (.tuple #[v0,goInt st]) { w with heap:=w.heap.setIfInBounds b (.map es1 clock1) } /\
   (Instr.lookup t (.map (some b)) key false).run P w = .ok v0 w/\(∀ w2:World,w2.heap[b]? = some (.map es1 clock1)->(Instr.lookup t (.map (some b)) key false).run P w2 = .ok v0 w2) /\
   ∀ (w2:World) (val:Value),w2.heap[b]? = some (.map es1 clock1)->∃ es' clock',(Instr.entryStore t (.map (some b)) (goInt st) val).run P w2 = .ok () { w2 with heap:=w2.heap.setIfInBounds b (.map es' clock') } /\
    (Instr.mapUpdate t (.map (some b)) key val).run P w = .ok () { w with heap:=w.heap.setIfInBounds b (.map es' clock') }:=by
 obtain ⟨s1,s2,s3⟩:=hst
 have look:∀ (u:World) (es1:Array MapEntry) (clock1:Nat) (j:Nat) (e1:MapEntry),u.heap[b]? = some (.map es1 clock1)->(∀ e ∈ es1.toList,∃ l,keyOf P kt e.key = some l)->es1.toList[j]? = some e1->e1.key = key->(es1.toList.map (·.key)).Nodup ->
   (Instr.lookup t (.map (some b)) key false).run P u = .ok e1.val u:=by
  intro u es1 clock1 j e1 hu hk1 hj hkey1 hnd
  rcases K.find u hkey es1.toList hk1 with ⟨h1,h2⟩ | ⟨j',e0,h1,h2,h3⟩
  ·exact absurd hkey1 (h2 e1 (zvu hj))
  ·have hjj:j' = j:=by
    have q1:(es1.toList.map (·.key))[j']? = some key:=by rw [List.getElem?_map,h2]; simp [h3]
    have q2:(es1.toList.map (·.key))[j]? = some key:=by rw [List.getElem?_map,hj]; simp [hkey1]
    have l1:=(List.getElem?_eq_some_iff.1 q1)
    have l2:=(List.getElem?_eq_some_iff.1 q2)
    rcases Nat.lt_trichotomy j' j with q | q | q
    ·exact absurd (l1.2.trans l2.2.symm) (List.pairwise_iff_getElem.1 hnd _ _ l1.1 l2.1 q)
    ·exact q
    ·exact absurd (l2.2.trans l1.2.symm) (List.pairwise_iff_getElem.1 hnd _ _ l2.1 l1.1 q)
   subst hjj
   rw [hj] at h2
   cases h2
   simp [Instr.lookup,run_underlying ht,MapKept.run_getObj_map hu,K.check u _ hkey,h1,Result.andThen]
 have hnd0:(es.toList.map (·.key)).Nodup:=s3
 rcases K.find w hkey es.toList hkeys with ⟨h1,h2⟩ | ⟨j,e0,h1,h2,h3⟩
 ·refine ⟨z,clock,es.push ⟨key,z,clock⟩,clock + 1,?_,?_,?_,fun w2 val hw2=>⟨es.push ⟨key,val,clock⟩,clock + 1,?_,?_⟩⟩
  ·simp [Instr.mapEntry,run_underlying ht,MapKept.run_getObj_map hb,K.check w false hkey,h1,hz,MapKept.run_setObj_map _ hb,Result.andThen]
  ·simp [Instr.lookup,run_underlying ht,MapKept.run_getObj_map hb,K.check w _ hkey,h1,hz,Result.andThen]
  ·intro w2 hw2
   refine look w2 _ _ es.size ⟨key,z,clock⟩ hw2 (fun e he=>?_) (by simp) rfl ?_
   ·rw [Array.toList_push] at he
    rcases List.mem_append.1 he with he | he
    ·exact hkeys e he
    ·simp at he; subst he; exact ⟨_,hkey⟩
   ·rw [Array.toList_push,List.map_append]
    refine List.nodup_append.2 ⟨hnd0,by simp,fun a ha c hc e1=>?_⟩
    simp only [List.map_cons,List.map_nil,zvv] at hc
    obtain ⟨x,hx,rfl⟩:=List.mem_map.1 ha
    exact h2 x hx (e1.trans hc)
  ·have hidx:(es.push ⟨key,z,clock⟩).findIdx? (fun e=>((e.born:Nat):Int) == ((clock:Nat):Int)) = some es.size:=by
    rw [findIdx_arr]
    have:=findIdx_born (l:=(es.push ⟨key,z,clock⟩).toList) (j:=es.size) (e0:=⟨key,z,clock⟩) (by
     simp only [Array.toList_push,List.map_append,List.map_cons,List.map_nil]
     refine List.nodup_append.2 ⟨s2,by simp,fun a ha c hc e1=>?_⟩
     simp only [zvv] at hc
     obtain ⟨x,hx,rfl⟩:=List.mem_map.1 ha
     have:=s1 x hx
     omega) (by simp)
    exact this
   have hmod:(es.push ⟨key,z,clock⟩).modify es.size (fun e=>{ e with val:=val }) = es.push ⟨key,val,clock⟩:=by
    apply Array.ext'
    rw [Array.toList_modify,Array.toList_push,Array.toList_push,<- Array.length_toList,modify_last]
   simp [Instr.entryStore,MapKept.run_getObj_map hw2,asInt,asIntOf,goInt,hidx,hmod,MapKept.run_setObj_map _ hw2,Result.andThen]
  ·simp [Instr.mapUpdate,run_underlying ht,MapKept.run_getObj_map hb,K.check w false hkey,h1,MapKept.run_setObj_map _ hb,Result.andThen]
 ·have hj:es[j]? = some e0:=by simpa using h2
  have hsame:es.modify j (fun e=>{ e with key:=key }) = es:=by
   apply Array.ext'
   rw [Array.toList_modify,ChangeMaps.modify_eq_set _ _ _ _ h2]
   have:({ e0 with key:=key }:MapEntry) = e0:=by rw [<- h3]
   rw [this]
   exact set_self _ _ _ h2
  refine ⟨e0.val,e0.born,es,clock,?_,look w es clock j e0 hb hkeys h2 h3 hnd0,fun w2 hw2=>look w2 es clock j e0 hw2 hkeys h2 h3 hnd0,fun w2 val hw2=>⟨es.modify j (fun e'=>{ e' with key:=key,val:=val }),clock,?_,?_⟩⟩
  ·simp [Instr.mapEntry,run_underlying ht,MapKept.run_getObj_map hb,K.check w false hkey,h1,hj,h3,K.stays w hkey,hsame,MapKept.run_setObj_map _ hb,Result.andThen]
  ·have hidx:es.findIdx? (fun e=>((e.born:Nat):Int) == ((e0.born:Nat):Int)) = some j:=by
    rw [findIdx_arr]
    exact findIdx_born s2 h2
   have hmod:es.modify j (fun e=>{ e with val:=val }) = es.modify j (fun e'=>{ e' with key:=key,val:=val }):=by
    apply Array.ext'
    rw [Array.toList_modify,Array.toList_modify,ChangeMaps.modify_eq_set _ _ _ _ h2,ChangeMaps.modify_eq_set _ _ _ _ h2,<- h3]
   simp [Instr.entryStore,MapKept.run_getObj_map hw2,asInt,asIntOf,goInt,hidx,hmod,MapKept.run_setObj_map _ hw2,Result.andThen]
  ·simp [Instr.mapUpdate,run_underlying ht,MapKept.run_getObj_map hb,K.check w false hkey,h1,hj,h3,K.stays w hkey,MapKept.run_setObj_map _ hb,Result.andThen]
end
section
variable {P:Program} {n':Nat} {st:St} {K:St->Prop}
theorem z6 {a:Act} {d:Nat} {v:Value} {x:Operand} (h:x ≠ .tmp d):(a.put (some d) v).eval x = a.eval x:=by
 cases x with
 | tmp s =>
  have hne:d ≠ s:=fun e=>h (by rw [e])
  simp only [Act.eval,Act.put,Array.getD_eq_getD_getElem?]
  rw [Array.getElem?_setIfInBounds_ne hne]
 | const v=>rfl
 | global g=>rfl
 | func f=>rfl
theorem Qt {a:Act} {d:Nat} {v:Value} (h:d < a.tmps.size):(a.put (some d) v).eval (.tmp d) = v:=by
 simp [Act.eval,Act.put,h]
theorem Act.put_comm (a:Act) {d e:Nat} (v u:Value) (h:d ≠ e):(a.put (some d) v).put (some e) u = (a.put (some e) u).put (some d) v:=by
 simp only [Act.put]
 rw [Array.setIfInBounds_comm _ _ h]
theorem zva {o2 o3 o4 o5 o6:Oper} {t kt et xT yT:TypeId} {op:BinOp} {m x:Operand} {d2 d3 d4 d5:Nat} {ag:Bool} {ks:List CK} {i:Nat} {B:Box} {k:IntKind} {n c y:Int} {zv:V}
  (h2:o2.op = .lookup t m x false) (h3:o3.op = .binOp op xT (.tmp d2) (.const (.int k c)) yT) (h4:o4.op = .mapEntry t m x) (h5:o5.op = .extract (.tmp d4) 1) (h6:o6.op = .entryStore t m (.tmp d5) (.tmp d3))
  (hop:zk1 op k n c = some (.int k y)) (hn2:d2 < n') (hn3:d3 < n') (hn4:d4 < n') (hn5:d5 < n')
  (hm:st.eval m = .mref i) (hb:st.box i = some B) (hty:ZX <= B.ty) (hT:mapT P t = some (kt,et)) (hz:zeroT P et = some zv) (hv:(qU B.cells (st.eval x)).getD zv = .int k n) (hkt:keyT P kt = some (ag,ks)) (KT:KeyT P kt) (ox:Yu ag ks (st.eval x)) (oks:Z0 ag ks B.cells)
  (hk:K ((((((st.setBox i ⟨ZC B.cells (st.eval x) (.int k y),B.ty⟩).put (some d2) (.int k n) none).put (some d3) (.int k y) none).put (some d4) .any none).put (some d5) .any none)))
  (F:Fr) (a:Act) (w:World) (pr:Nat->Nat->Prop) (lam:Nat->Option Nat) (hF:F.nt = n') (h:zl P F st a w pr lam) (Q:Act->World->Prop)
  (hn:∀ st' a' w' pr' lam',K st'->zl P F st' a' w' pr' lam'->Q a' w') :
  ∃ (t4 t5:Value) (w1 w3:World),
   (∀ a':Act,a'.eval m = a.eval m->a'.eval x = a.eval x->(execOp a'.eval o2).run P w = .ok (.value (.int k n)) w/\(execOp a'.eval o2).run P w1 = .ok (.value (.int k n)) w1/\(execOp a'.eval o4).run P w = .ok (.value t4) w1) /\
   (∀ (a':Act) (u:World),a'.eval (.tmp d2) = .int k n->(execOp a'.eval o3).run P u = .ok (.value (.int k y)) u) /\
   (∀ (a':Act) (u:World),a'.eval (.tmp d4) = t4->(execOp a'.eval o5).run P u = .ok (.value t5) u) /\
   (∀ a':Act,a'.eval m = a.eval m->a'.eval (.tmp d3) = .int k y->a'.eval (.tmp d5) = t5->(execOp a'.eval o6).run P w1 = .ok .skip w3) /\
   Q ((((a.put (some d2) (.int k n)).put (some d3) (.int k y)).put (some d4) t4).put (some d5) t5) w3:=by
 have g1:=h.eval m
 have g2:=h.eval x
 rw [hm] at g1
 simp only [R] at g1
 obtain ⟨b,hl,e⟩:=g1
 obtain ⟨b',hl',hat,hnp,_⟩:=h.box i B hb
 obtain rfl:b = b':=by rw [show lam i = some b from hl] at hl'; cases hl'; rfl
 obtain ⟨es,clock,hg,hr,hst⟩:=hat.map hty
 change w.heap[b]? = _ at hg
 have hu:=mapT_spec hT
 obtain ⟨kl,hkl⟩:=KT.key ag ks hkt _ _ _ ox g2
 have hkeys:=RM.keys KT hkt hr oks
 obtain ⟨iz,z,z1,z2,rfl⟩:=zeroT_spec hz
 have hzero:∀ u:World,(zeroValue et).run P u = .ok z u:=fun u=>by simp [zeroValue,typeInfo,z1,z2]
 have hrz:R ⟨w,pr,lam⟩ (qv z) z:=Zv _ z
 obtain ⟨v0,stm,es1,clock1,r1,rl,rl1,r2⟩:=zsz KT.keyed hu hzero hg hst hkeys hkl
 have hv0:v0 = .int k n:=by
  have hr0:R ⟨w,pr,lam⟩ ((qU B.cells (st.eval x)).getD (qv z)) v0:=by
   rcases KT.keyed.find w hkl es.toList hkeys with ⟨f1,f2⟩ | ⟨j,e0,f1,f2,f3⟩
   ·obtain ⟨q1,_⟩:=RM.get_none g2 ox hr oks f2
    rw [q1]
    have:(Instr.lookup t (.map (some b)) (a.eval x) false).run P w = .ok z w:=by
     simp [Instr.lookup,run_underlying hu,MapKept.run_getObj_map hg,KT.keyed.check w _ hkl,f1,hzero,Result.andThen]
    rw [this] at rl
    cases rl
    exact hrz
   ·obtain ⟨⟨v,q1,q2⟩,_⟩:=RM.get_some g2 ox hr oks hst.2.2 f2 f3
    rw [q1]
    have:(Instr.lookup t (.map (some b)) (a.eval x) false).run P w = .ok e0.val w:=by
     simp [Instr.lookup,run_underlying hu,MapKept.run_getObj_map hg,KT.keyed.check w _ hkl,f1,Result.andThen]
    rw [this] at rl
    cases rl
    exact q2
  rw [hv] at hr0
  simpa [R] using hr0
 subst hv0
 have hw1:({ w with heap:=w.heap.setIfInBounds b (.map es1 clock1) }:World).heap[b]? = some (.map es1 clock1):=by
  have hlt:=(Array.getElem?_eq_some_iff.1 hg).1
  simp [hlt]
 obtain ⟨es',clock',r3,r4⟩:=r2 { w with heap:=w.heap.setIfInBounds b (.map es1 clock1) } (.int k y) hw1
 refine ⟨.tuple #[.int k n,goInt stm],goInt stm,{ w with heap:=w.heap.setIfInBounds b (.map es1 clock1) },{ w with heap:=w.heap.setIfInBounds b (.map es' clock') },?_,?_,?_,?_,?_⟩
 ·intro a' em ex
  refine ⟨?_,?_,?_⟩
  ·simp only [execOp,h2,em,ex,e]; simp [rl]
  ·simp only [execOp,h2,em,ex,e]; simp [rl1 _ hw1]
  ·simp only [execOp,h4,em,ex,e]; simp [r1]
 ·intro a' u e2
  have hq:∃ v,(execOp a'.eval o3).run P u = .ok (.value v) u/\v = .int k y:=by
   have e3:a'.eval (.const (.int k c)) = .int k c:=rfl
   cases op <;> simp only [zk1,zvO,reduceCtorEq,V.int.injEq,true_and] at hop
   case quo =>
    split at hop
    ·cases hop
    ·rename_i hb
     simp only [zvO,V.int.injEq,true_and] at hop; subst hop
     exact ⟨_,by simp [execOp,h3,e2,e3,eqGuard,binOp,Op.intDiv,hb],rfl⟩
   case rem =>
    split at hop
    ·cases hop
    ·rename_i hb
     simp only [zvO,V.int.injEq,true_and] at hop; subst hop
     exact ⟨_,by simp [execOp,h3,e2,e3,eqGuard,binOp,Op.intDiv,hb],rfl⟩
   all_goals subst hop
   case and=>exact ⟨_,by simp [execOp,h3,e2,e3,eqGuard,binOp,zov],rfl⟩
   case or=>exact ⟨_,by simp [execOp,h3,e2,e3,eqGuard,binOp,zqH],rfl⟩
   case xor=>exact ⟨_,by simp [execOp,h3,e2,e3,eqGuard,binOp,zow],rfl⟩
   case andNot=>exact ⟨_,by simp [execOp,h3,e2,e3,eqGuard,binOp,zf5],rfl⟩
   all_goals exact ⟨_,by simp [execOp,h3,e2,e3,eqGuard,binOp,Op.intArith,Op.intCmp],rfl⟩
  obtain ⟨v,hq,rfl⟩:=hq
  exact hq
 ·intro a' u e4
  simp only [execOp,h5,e4]
  simp [Instr.extract]
 ·intro a' em e3 e5
  simp only [execOp,h6,em,e3,e5,e]
  simp [r3]
 ·-- the store that it is
  let o':Oper:={ o6 with op:=.mapUpdate t m x (.const (.int k y)),dst:=none }
  have hup:o'.wp P a w (fun a' w'=>Q ((((a'.put (some d2) (.int k n)).put (some d3) (.int k y)).put (some d4) (.tuple #[.int k n,goInt stm])).put (some d5) (goInt stm)) w') (fun _ _ _=>True) :=
   zbf (K:=fun st'=>K (((((st'.put (some d2) (.int k n) none).put (some d3) (.int k y) none).put (some d4) .any none).put (some d5) .any none))) (o:=o') rfl hm hb hty hT hkt KT ox oks rfl
    (by have:st.eval (.const (.int k y)) = .int k y:=rfl
        rw [this]; exact hk) F a w pr lam hF h _ _ fun st' a' w' pr' lam' hk' hs' =>
    have q2:zl P F (st'.put (some d2) (.int k n) none) (a'.put (some d2) (.int k n)) w' pr' lam':=hs'.put (fun d hd=>by cases hd; rw [hF]; exact hn2) (by simp [R]) trivial
    have q3:zl P F ((st'.put (some d2) (.int k n) none).put (some d3) (.int k y) none) ((a'.put (some d2) (.int k n)).put (some d3) (.int k y)) w' pr' lam':=q2.put (fun d hd=>by cases hd; rw [hF]; exact hn3) (by simp [R]) trivial
    have q4:zl P F (((st'.put (some d2) (.int k n) none).put (some d3) (.int k y) none).put (some d4) .any none) (((a'.put (some d2) (.int k n)).put (some d3) (.int k y)).put (some d4) (.tuple #[.int k n,goInt stm])) w' pr' lam':=q3.put (fun d hd=>by cases hd; rw [hF]; exact hn4) (by simp [R]) trivial
    have q5:zl P F ((((st'.put (some d2) (.int k n) none).put (some d3) (.int k y) none).put (some d4) .any none).put (some d5) .any none) ((((a'.put (some d2) (.int k n)).put (some d3) (.int k y)).put (some d4) (.tuple #[.int k n,goInt stm])).put (some d5) (goInt stm)) w' pr' lam':=q4.put (fun d hd=>by cases hd; rw [hF]; exact hn5) (by simp [R]) trivial
    hn _ _ w' pr' lam' hk' q5
  have hro:(execOp a.eval o').run P w = .ok .skip { w with heap:=w.heap.setIfInBounds b (.map es' clock') }:=by
   have ec:a.eval (.const (.int k y)) = .int k y:=rfl
   simp only [execOp,o',e,ec]
   simp [r4]
  unfold Oper.wp at hup
  rw [hro,Oper.upon_skip] at hup
  exact hup
end
def Y3:List V->V->List V
 | [],_=>[]
 | c :: cs,x=>match c with
  | .tup [k,_]=>if qm k x then cs else c :: Y3 cs x
  | _=>c :: Y3 cs x
theorem RM.del_none {E:Env} {ag:Bool} {ks:List CK} {x:V} {xv:Value} (hx:R E x xv) (ox:Yu ag ks x):∀ {cs:List V} {es:List MapEntry},RM E cs es->Z0 ag ks cs->(∀ e ∈ es,e.key ≠ xv)->Y3 cs x = cs
 | [],_,_,_,_=>rfl
 | c :: cs,es,h,ok,hne=>by
  simp only [RM] at h
  obtain ⟨k,v,e,es',rfl,rfl,h1,h2,h3⟩:=h
  obtain ⟨⟨k',v',hc,okk⟩,ok'⟩:=ok
  simp only [V.tup.injEq,List.cons.injEq,and_true] at hc
  obtain ⟨rfl,rfl⟩:=hc
  have hk:qm k x = false:=by
   rw [Bool.eq_false_iff]
   intro q
   exact hne e (by simp) ((zbK h1 hx okk ox).1 q)
  simp [Y3,hk,RM.del_none hx ox h3 ok' fun e he=>hne e (by simp [he])]
theorem RM.del_some {E:Env} {ag:Bool} {ks:List CK} {x:V} {xv:Value} (hx:R E x xv) (ox:Yu ag ks x):∀ {cs:List V} {es:List MapEntry} {j:Nat} {e:MapEntry},RM E cs es->Z0 ag ks cs ->
  (es.map (·.key)).Nodup->es[j]? = some e->e.key = xv->RM E (Y3 cs x) (es.eraseIdx j)
 | [],es,j,e,h,_,_,he,_=>by simp only [RM] at h; subst h; simp at he
 | c :: cs,es,j,e,h,ok,hnd,he,hkey=>by
  simp only [RM] at h
  obtain ⟨k,v,e0,es',rfl,rfl,h1,h2,h3⟩:=h
  obtain ⟨⟨k',v',hc,okk⟩,ok'⟩:=ok
  simp only [V.tup.injEq,List.cons.injEq,and_true] at hc
  obtain ⟨rfl,rfl⟩:=hc
  simp only [List.map_cons,List.nodup_cons] at hnd
  cases j with
  | zero =>
   simp at he; subst he
   have hk:qm k x = true:=(zbK h1 hx okk ox).2 hkey
   simp only [Y3,hk,if_true,List.eraseIdx_cons_zero]
   exact h3
  | succ j =>
   simp at he
   have hne:e0.key ≠ xv:=by
    intro q
    apply hnd.1
    rw [q,<- hkey]
    exact List.mem_map.2 ⟨e,zvu he,rfl⟩
   have hk:qm k x = false:=by
    rw [Bool.eq_false_iff]
    exact fun q=>hne ((zbK h1 hx okk ox).1 q)
   simp only [Y3,hk,Bool.false_eq_true,if_false,List.eraseIdx_cons_succ,RM]
   exact ⟨k,v,e0,_,rfl,rfl,h1,h2,RM.del_some hx ox h3 ok' hnd.2 he hkey⟩
theorem RM.length {E:Env}:∀ {cs:List V} {es:List MapEntry},RM E cs es->cs.length = es.length
 | [],es,h=>by simp only [RM] at h; subst h; rfl
 | c :: cs,es,h=>by
  simp only [RM] at h
  obtain ⟨k,v,e0,es',rfl,rfl,h1,h2,h3⟩:=h
  simp [RM.length h3]
section
variable {P:Program} {n':Nat} {st:St} {K:St->Prop} {o:Oper}
theorem zkS {t kt et t2:TypeId} {m x:Operand} {ag:Bool} {ks:List CK} {i:Nat} {B:Box} (ho:o.op = .call { callee:=.builtin .delete,args:=#[m,x],argTypes:=#[t,t2] }) (hm:st.eval m = .mref i) (hb:st.box i = some B) (hty:ZX <= B.ty)
  (hT:mapT P t = some (kt,et)) (hkt:keyT P kt = some (ag,ks)) (KT:KeyT P kt) (ox:Yu ag ks (st.eval x)) (oks:Z0 ag ks B.cells) (hd:o.dst = none)
  (hk:K (st.setBox i ⟨Y3 B.cells (st.eval x),B.ty⟩)):Zl P n' o st K:=by
 intro F a w pr lam hF h next Q hn
 have h1:=h.eval m
 have h2:=h.eval x
 rw [hm] at h1
 simp only [R] at h1
 obtain ⟨b,hl,e⟩:=h1
 obtain ⟨b',hl',hat,hnp,_⟩:=h.box i B hb
 obtain rfl:b = b':=by rw [show lam i = some b from hl] at hl'; cases hl'; rfl
 obtain ⟨es,clock,hg,hr,hst⟩:=hat.map hty
 change w.heap[b]? = _ at hg
 have hu:=mapT_spec hT
 obtain ⟨kl,hkl⟩:=KT.key ag ks hkt _ _ _ ox h2
 have hkeys:=RM.keys KT hkt hr oks
 have hsw:∀ ob,zfk w { w with heap:=w.heap.setIfInBounds b ob } b:=fun ob=>⟨rfl,rfl,rfl,DLE.of_eq rfl,by simp,fun k hk=>by
  show (w.heap.setIfInBounds b ob)[k]? = _
  rw [Array.getElem?_setIfInBounds_ne (Ne.symm hk)]⟩
 have hnew:∀ ob,(w.heap.setIfInBounds b ob)[b]? = some ob:=fun ob=>by
  have hlt:=(Array.getElem?_eq_some_iff.1 hg).1
  simp [hlt]
 have fin:∀ es',(Builtin.delete_ #[t,t2] o.type #[.map (some b),a.eval x]).run P w = .ok (.tuple #[]) { w with heap:=w.heap.setIfInBounds b (.map es' clock) } ->
   (∀ E:Env,Env.Le ⟨w,pr,lam⟩ E->RM E (Y3 B.cells (st.eval x)) es'.toList)->MapKept.Stamped es' clock->o.wp P a w next Q:=by
  intro es' hrun hrm hst'
  have hr:(execOp a.eval o).run P w = .ok (.value (.tuple #[])) { w with heap:=w.heap.setIfInBounds b (.map es' clock) }:=by
   simp only [execOp,ho,resolve,invoke,builtin,Sem.run_bind,Sem.run_pure,Result.andThen_ok,List.map_toArray,List.map_cons,List.map_nil,e]
   simp [hrun]
  unfold Oper.wp
  rw [hr,Oper.upon_value,hd]
  exact hn _ _ _ pr lam hk (h.setObj hb hl (hsw _) fun hle=>⟨fun ht=>absurd hty (Nat.not_le.2 ht),fun _=>⟨es',clock,hnew _,hrm _ hle,hst'⟩⟩)
 rcases KT.keyed.find w hkl es.toList hkeys with ⟨f1,f2⟩ | ⟨j,e0,f1,f2,f3⟩
 ·refine fin es ?_ ?_ hst
  ·simp [Builtin.delete_,run_underlying hu,MapKept.run_getObj_map hg,KT.keyed.check w _ hkl,f1,MapKept.run_setObj_map _ hg,Result.andThen]
  ·intro E hle
   rw [RM.del_none h2 ox hr oks f2]
   exact hr.mono hle
 ·have hjl:j < es.toList.length:=(List.getElem?_eq_some_iff.1 f2).1
  have hjs:j < es.size:=by simpa using hjl
  have hsub:(es.eraseIdxIfInBounds j).toList = es.toList.eraseIdx j:=by
   unfold Array.eraseIdxIfInBounds
   rw [dif_pos hjs]
   simp
  refine fin (es.eraseIdxIfInBounds j) ?_ ?_ (MapKept.stamped_erase hst j)
  ·simp [Builtin.delete_,run_underlying hu,MapKept.run_getObj_map hg,KT.keyed.check w _ hkl,f1,MapKept.run_setObj_map _ hg,Result.andThen]
  ·intro E hle
   rw [hsub]
   exact RM.del_some (h2.mono hle) ox (hr.mono hle) oks hst.2.2 f2 f3
theorem zmG {ρ:Operand->V} {bx:Nat->Option Box} {t kt et:TypeId} {m:Operand} {i:Nat} {B:Box} (ho:o.op = .call { callee:=.builtin .len,args:=#[m],argTypes:=#[t] }) (hm:ρ m = .mref i) (hb:bx i = some B) (hty:ZX <= B.ty)
  (hT:mapT P t = some (kt,et)):QV P o ρ bx (.int .i64 B.cells.length) none :=
 QV.pure fun a w pr lam h hB=>by
  have h1:=h m (by simp [ho,Op.operands,Call.operands])
  rw [hm] at h1
  simp only [R] at h1
  obtain ⟨b,hl,e⟩:=h1
  obtain ⟨b',hl',hat⟩:=hB i B hb
  obtain rfl:b = b':=by simpa [hl] using hl'
  obtain ⟨es,clock,hg,hr,hst⟩:=hat.map hty
  change w.heap[b]? = _ at hg
  have hu:=mapT_spec hT
  refine ⟨.int .i64 B.cells.length,?_,by simp [R]⟩
  simp only [execOp,ho,resolve,invoke,builtin,Sem.run_bind,Sem.run_pure,Result.andThen_ok,List.map_toArray,List.map_cons,List.map_nil,e]
  simp [Builtin.len_,run_underlying hu,MapKept.run_getObj_map hg,goInt,RM.length hr,Result.andThen]
end
end Go.Eng
namespace Go.Eng
open Go.RowKit
def rd (ops:Array Oper) (L:Array Bool) (p:List Nat):List Nat:=Region.ready .any ops (p.foldl (fun l i=>l.setIfInBounds i true) L)
def rsB (ops:Array Oper) (L:Array Bool) (k:Nat):Bool :=
 rd ops L [] == [k,k + 2] && rd ops L [k] == [k + 1,k + 2] && rd ops L [k,k + 1] == [k + 2] && rd ops L [k,k + 1,k + 2] == [k + 3] && rd ops L [k,k + 1,k + 2,k + 3] == [k + 4] && rd ops L [k,k + 2] == [k + 1,k + 3] && rd ops L [k,k + 2,k + 1] == [k + 3] && rd ops L [k,k + 2,k + 1,k + 3] == [k + 4] && rd ops L [k,k + 2,k + 3] == [k + 1] && rd ops L [k,k + 2,k + 3,k + 1] == [k + 4] && rd ops L [k + 2] == [k,k + 3] && rd ops L [k + 2,k] == [k + 1,k + 3] && rd ops L [k + 2,k,k + 1] == [k + 3] && rd ops L [k + 2,k,k + 1,k + 3] == [k + 4] && rd ops L [k + 2,k,k + 3] == [k + 1] && rd ops L [k + 2,k,k + 3,k + 1] == [k + 4] && rd ops L [k + 2,k + 3] == [k] && rd ops L [k + 2,k + 3,k] == [k + 1] && rd ops L [k + 2,k + 3,k,k + 1] == [k + 4] && rd ops L [k,k + 1,k + 2,k + 3,k + 4] == [] && rd ops L [k,k + 2,k + 1,k + 3,k + 4] == [] && rd ops L [k,k + 2,k + 3,k + 1,k + 4] == [] && rd ops L [k + 2,k,k + 1,k + 3,k + 4] == [] && rd ops L [k + 2,k,k + 3,k + 1,k + 4] == [] && rd ops L [k + 2,k + 3,k,k + 1,k + 4] == []
theorem qw {P:Program} {md:Region.Mode} {ops:Array Oper} {Q:Exit->Act->World->Prop} {f i:Nat} {L:Array Bool} {a:Act} {w:World} (hr:Region.ready md ops L = [i]) (h:wpOp P ops Q i (wpAny P md ops Q f (L.setIfInBounds i true)) a w):wpAny P md ops Q (f + 1) L a w :=
 ⟨fun h0=>(by rw [hr] at h0; cases h0),fun j hj=>(by rw [hr,zvv] at hj; subst hj; exact h)⟩
theorem Yt {P:Program} {md:Region.Mode} {ops:Array Oper} {Q:Exit->Act->World->Prop} {f i i':Nat} {L:Array Bool} {a:Act} {w:World} (hr:Region.ready md ops L = [i,i']) (h:wpOp P ops Q i (wpAny P md ops Q f (L.setIfInBounds i true)) a w)
  (h':wpOp P ops Q i' (wpAny P md ops Q f (L.setIfInBounds i' true)) a w):wpAny P md ops Q (f + 1) L a w :=
 ⟨fun h0=>(by rw [hr] at h0; cases h0),fun j hj=>(by
  rw [hr] at hj
  rcases List.mem_cons.1 hj with rfl | hj
  ·exact h
  ·rw [zvv] at hj; subst hj; exact h')⟩
theorem yU {P:Program} {ops:Array Oper} {Q:Exit->Act->World->Prop} {i:Nat} {K:Act->World->Prop} {a:Act} {w w':World} {o:Oper} {v:Value} {d:Nat} (g:ops[i]? = some o) (u:o.guard = none) (e:o.dst = some d) (hr:(execOp a.eval o).run P w = .ok (.value v) w')
  (h:K (a.put (some d) v) w'):wpOp P ops Q i K a w:=by
 unfold wpOp
 rw [g]
 have hw:Region.wanted o (yielded ops a.tmps) = true:=by unfold Region.wanted; rw [u]
 simp only [hw,if_true]
 left
 unfold Oper.wp
 rw [hr,Oper.upon_value,e]
 exact h
theorem zpj {P:Program} {ops:Array Oper} {Q:Exit->Act->World->Prop} {i:Nat} {K:Act->World->Prop} {a:Act} {w w':World} {o:Oper} (g:ops[i]? = some o) (u:o.guard = none) (e:o.dst = none) (hr:(execOp a.eval o).run P w = .ok .skip w')
  (h:K a w'):wpOp P ops Q i K a w:=by
 unfold wpOp
 rw [g]
 have hw:Region.wanted o (yielded ops a.tmps) = true:=by unfold Region.wanted; rw [u]
 simp only [hw,if_true]
 left
 unfold Oper.wp
 rw [hr,Oper.upon_skip,e]
 exact h
theorem yf (a:Act) (d:Option Nat) (v:Value):(a.put d v).tmps.size = a.tmps.size:=by
 cases d <;> simp [Act.put]
set_option maxHeartbeats 8000000 in
theorem zpk {P:Program} {ops:Array Oper} {Q:Exit->Act->World->Prop} {k:Nat} {L:Array Bool} {a:Act} {w w1 w3:World} {o2 o3 o4 o5 o6:Oper} {d2 d3 d4 d5:Nat} {m x:Operand} {ik:IntKind} {n y:Int} {t4 t5:Value} (hrs:rsB ops L k = true)
  (g2:ops[k]? = some o2) (g3:ops[k + 1]? = some o3) (g4:ops[k + 2]? = some o4) (g5:ops[k + 3]? = some o5) (g6:ops[k + 4]? = some o6) (u2:o2.guard = none) (u3:o3.guard = none) (u4:o4.guard = none) (u5:o5.guard = none) (u6:o6.guard = none)
  (e2:o2.dst = some d2) (e3:o3.dst = some d3) (e4:o4.dst = some d4) (e5:o5.dst = some d5) (e6:o6.dst = none) (h23:d2 ≠ d3) (h24:d2 ≠ d4) (h25:d2 ≠ d5) (h34:d3 ≠ d4) (h35:d3 ≠ d5) (h45:d4 ≠ d5)
  (m2:m ≠ .tmp d2) (m3:m ≠ .tmp d3) (m4:m ≠ .tmp d4) (m5:m ≠ .tmp d5) (x2:x ≠ .tmp d2) (x3:x ≠ .tmp d3) (x4:x ≠ .tmp d4) (x5:x ≠ .tmp d5) (s2:d2 < a.tmps.size) (s3:d3 < a.tmps.size) (s4:d4 < a.tmps.size) (s5:d5 < a.tmps.size)
  (hA:∀ a':Act,a'.eval m = a.eval m->a'.eval x = a.eval x->(execOp a'.eval o2).run P w = .ok (.value (.int ik n)) w/\(execOp a'.eval o2).run P w1 = .ok (.value (.int ik n)) w1/\(execOp a'.eval o4).run P w = .ok (.value t4) w1)
  (hB:∀ (a':Act) (u:World),a'.eval (.tmp d2) = .int ik n->(execOp a'.eval o3).run P u = .ok (.value (.int ik y)) u)
  (hD:∀ (a':Act) (u:World),a'.eval (.tmp d4) = t4->(execOp a'.eval o5).run P u = .ok (.value t5) u)
  (hE:∀ a':Act,a'.eval m = a.eval m->a'.eval (.tmp d3) = .int ik y->a'.eval (.tmp d5) = t5->(execOp a'.eval o6).run P w1 = .ok .skip w3)
  (hQ:Q .normal ((((a.put (some d2) (.int ik n)).put (some d3) (.int ik y)).put (some d4) t4).put (some d5) t5) w3):wpAny P .any ops Q 5 L a w:=by
 simp only [rsB,rd,List.foldl_cons,List.foldl_nil,zvL,beq_iff_eq] at hrs
 obtain ⟨⟨⟨⟨⟨⟨⟨⟨⟨⟨⟨⟨⟨⟨⟨⟨⟨⟨⟨⟨⟨⟨⟨⟨r,r2⟩,r23⟩,r234⟩,r2345⟩,r24⟩,r243⟩,r2435⟩,r245⟩,r2453⟩,r4⟩,r42⟩,r423⟩,r4235⟩,r425⟩,r4253⟩,r45⟩,r452⟩,r4523⟩,r23456⟩,r24356⟩,r24536⟩,r42356⟩,r42536⟩,r45236⟩:=hrs
 have em2:∀ (b:Act) (v:Value),(b.put (some d2) v).eval m = b.eval m:=fun b v=>z6 m2
 have em3:∀ (b:Act) (v:Value),(b.put (some d3) v).eval m = b.eval m:=fun b v=>z6 m3
 have em4:∀ (b:Act) (v:Value),(b.put (some d4) v).eval m = b.eval m:=fun b v=>z6 m4
 have em5:∀ (b:Act) (v:Value),(b.put (some d5) v).eval m = b.eval m:=fun b v=>z6 m5
 have ex2:∀ (b:Act) (v:Value),(b.put (some d2) v).eval x = b.eval x:=fun b v=>z6 x2
 have ex3:∀ (b:Act) (v:Value),(b.put (some d3) v).eval x = b.eval x:=fun b v=>z6 x3
 have ex4:∀ (b:Act) (v:Value),(b.put (some d4) v).eval x = b.eval x:=fun b v=>z6 x4
 have ex5:∀ (b:Act) (v:Value),(b.put (some d5) v).eval x = b.eval x:=fun b v=>z6 x5
 have tn:∀ {d e:Nat},d ≠ e->Operand.tmp d ≠ .tmp e:=fun h q=>h (by cases q; rfl)
 have t23:∀ (b:Act) (v:Value),(b.put (some d3) v).eval (.tmp d2) = b.eval (.tmp d2):=fun b v=>z6 (tn h23)
 have t24:∀ (b:Act) (v:Value),(b.put (some d4) v).eval (.tmp d2) = b.eval (.tmp d2):=fun b v=>z6 (tn h24)
 have t25:∀ (b:Act) (v:Value),(b.put (some d5) v).eval (.tmp d2) = b.eval (.tmp d2):=fun b v=>z6 (tn h25)
 have v2:∀ (b:Act) (v:Value),b.tmps.size = a.tmps.size->(b.put (some d2) v).eval (.tmp d2) = v:=fun b v h=>Qt (by rw [h]; exact s2)
 have t32:∀ (b:Act) (v:Value),(b.put (some d2) v).eval (.tmp d3) = b.eval (.tmp d3):=fun b v=>z6 (tn h23.symm)
 have t34:∀ (b:Act) (v:Value),(b.put (some d4) v).eval (.tmp d3) = b.eval (.tmp d3):=fun b v=>z6 (tn h34)
 have t35:∀ (b:Act) (v:Value),(b.put (some d5) v).eval (.tmp d3) = b.eval (.tmp d3):=fun b v=>z6 (tn h35)
 have v3:∀ (b:Act) (v:Value),b.tmps.size = a.tmps.size->(b.put (some d3) v).eval (.tmp d3) = v:=fun b v h=>Qt (by rw [h]; exact s3)
 have t42:∀ (b:Act) (v:Value),(b.put (some d2) v).eval (.tmp d4) = b.eval (.tmp d4):=fun b v=>z6 (tn h24.symm)
 have t43:∀ (b:Act) (v:Value),(b.put (some d3) v).eval (.tmp d4) = b.eval (.tmp d4):=fun b v=>z6 (tn h34.symm)
 have t45:∀ (b:Act) (v:Value),(b.put (some d5) v).eval (.tmp d4) = b.eval (.tmp d4):=fun b v=>z6 (tn h45)
 have v4:∀ (b:Act) (v:Value),b.tmps.size = a.tmps.size->(b.put (some d4) v).eval (.tmp d4) = v:=fun b v h=>Qt (by rw [h]; exact s4)
 have t52:∀ (b:Act) (v:Value),(b.put (some d2) v).eval (.tmp d5) = b.eval (.tmp d5):=fun b v=>z6 (tn h25.symm)
 have t53:∀ (b:Act) (v:Value),(b.put (some d3) v).eval (.tmp d5) = b.eval (.tmp d5):=fun b v=>z6 (tn h35.symm)
 have t54:∀ (b:Act) (v:Value),(b.put (some d4) v).eval (.tmp d5) = b.eval (.tmp d5):=fun b v=>z6 (tn h45.symm)
 have v5:∀ (b:Act) (v:Value),b.tmps.size = a.tmps.size->(b.put (some d5) v).eval (.tmp d5) = v:=fun b v h=>Qt (by rw [h]; exact s5)
 have fin:∀ (b:Act) (L':Array Bool),b = ((((a.put (some d2) (.int ik n)).put (some d3) (.int ik y)).put (some d4) t4).put (some d5) t5)->Region.ready .any ops L' = [k + 4]->Region.ready .any ops (L'.setIfInBounds (k + 4) true) = []->wpAny P .any ops Q 1 L' b w1:=by
  rintro b L' rfl q1 q2
  refine qw q1 (zpj g6 u6 e6 (hE _ (by simp only [em2,em3,em4,em5,ex2,ex3,ex4,ex5,t23,t24,t25,v2,t32,t34,t35,v3,t42,t43,t45,v4,t52,t53,t54,v5,yf]) (by simp only [em2,em3,em4,em5,ex2,ex3,ex4,ex5,t23,t24,t25,v2,t32,t34,t35,v3,t42,t43,t45,v4,t52,t53,t54,v5,yf]) (by simp only [em2,em3,em4,em5,ex2,ex3,ex4,ex5,t23,t24,t25,v2,t32,t34,t35,v3,t42,t43,t45,v4,t52,t53,t54,v5,yf])) ⟨q2,hQ⟩)
 refine Yt r (yU g2 u2 e2 (hA _ (by simp only [em2,em3,em4,em5,ex2,ex3,ex4,ex5,t23,t24,t25,v2,t32,t34,t35,v3,t42,t43,t45,v4,t52,t53,t54,v5,yf]) (by simp only [em2,em3,em4,em5,ex2,ex3,ex4,ex5,t23,t24,t25,v2,t32,t34,t35,v3,t42,t43,t45,v4,t52,t53,t54,v5,yf])).1 ?_) (yU g4 u4 e4 (hA _ (by simp only [em2,em3,em4,em5,ex2,ex3,ex4,ex5,t23,t24,t25,v2,t32,t34,t35,v3,t42,t43,t45,v4,t52,t53,t54,v5,yf]) (by simp only [em2,em3,em4,em5,ex2,ex3,ex4,ex5,t23,t24,t25,v2,t32,t34,t35,v3,t42,t43,t45,v4,t52,t53,t54,v5,yf])).2.2 ?_)
 ·refine Yt r2 (yU g3 u3 e3 (hB _ _ (by simp only [em2,em3,em4,em5,ex2,ex3,ex4,ex5,t23,t24,t25,v2,t32,t34,t35,v3,t42,t43,t45,v4,t52,t53,t54,v5,yf])) ?_) (yU g4 u4 e4 (hA _ (by simp only [em2,em3,em4,em5,ex2,ex3,ex4,ex5,t23,t24,t25,v2,t32,t34,t35,v3,t42,t43,t45,v4,t52,t53,t54,v5,yf]) (by simp only [em2,em3,em4,em5,ex2,ex3,ex4,ex5,t23,t24,t25,v2,t32,t34,t35,v3,t42,t43,t45,v4,t52,t53,t54,v5,yf])).2.2 ?_)
  ·refine qw r23 (yU g4 u4 e4 (hA _ (by simp only [em2,em3,em4,em5,ex2,ex3,ex4,ex5,t23,t24,t25,v2,t32,t34,t35,v3,t42,t43,t45,v4,t52,t53,t54,v5,yf]) (by simp only [em2,em3,em4,em5,ex2,ex3,ex4,ex5,t23,t24,t25,v2,t32,t34,t35,v3,t42,t43,t45,v4,t52,t53,t54,v5,yf])).2.2 ?_)
   refine qw r234 (yU g5 u5 e5 (hD _ _ (by simp only [em2,em3,em4,em5,ex2,ex3,ex4,ex5,t23,t24,t25,v2,t32,t34,t35,v3,t42,t43,t45,v4,t52,t53,t54,v5,yf])) ?_)
   refine fin _ _ (by rfl) ?_ ?_
   ·exact r2345
   ·exact r23456
  ·refine Yt r24 (yU g3 u3 e3 (hB _ _ (by simp only [em2,em3,em4,em5,ex2,ex3,ex4,ex5,t23,t24,t25,v2,t32,t34,t35,v3,t42,t43,t45,v4,t52,t53,t54,v5,yf])) ?_) (yU g5 u5 e5 (hD _ _ (by simp only [em2,em3,em4,em5,ex2,ex3,ex4,ex5,t23,t24,t25,v2,t32,t34,t35,v3,t42,t43,t45,v4,t52,t53,t54,v5,yf])) ?_)
   ·refine qw r243 (yU g5 u5 e5 (hD _ _ (by simp only [em2,em3,em4,em5,ex2,ex3,ex4,ex5,t23,t24,t25,v2,t32,t34,t35,v3,t42,t43,t45,v4,t52,t53,t54,v5,yf])) ?_)
    refine fin _ _ (by rw [Act.put_comm _ _ _ (show d4 ≠ d3 from fun h=>h34 h.symm)]) ?_ ?_
    ·exact r2435
    ·exact r24356
   ·refine qw r245 (yU g3 u3 e3 (hB _ _ (by simp only [em2,em3,em4,em5,ex2,ex3,ex4,ex5,t23,t24,t25,v2,t32,t34,t35,v3,t42,t43,t45,v4,t52,t53,t54,v5,yf])) ?_)
    refine fin _ _ (by rw [Act.put_comm _ _ _ (show d5 ≠ d3 from fun h=>h35 h.symm),Act.put_comm _ _ _ (show d4 ≠ d3 from fun h=>h34 h.symm)]) ?_ ?_
    ·exact r2453
    ·exact r24536
 ·refine Yt r4 (yU g2 u2 e2 (hA _ (by simp only [em2,em3,em4,em5,ex2,ex3,ex4,ex5,t23,t24,t25,v2,t32,t34,t35,v3,t42,t43,t45,v4,t52,t53,t54,v5,yf]) (by simp only [em2,em3,em4,em5,ex2,ex3,ex4,ex5,t23,t24,t25,v2,t32,t34,t35,v3,t42,t43,t45,v4,t52,t53,t54,v5,yf])).2.1 ?_) (yU g5 u5 e5 (hD _ _ (by simp only [em2,em3,em4,em5,ex2,ex3,ex4,ex5,t23,t24,t25,v2,t32,t34,t35,v3,t42,t43,t45,v4,t52,t53,t54,v5,yf])) ?_)
  ·refine Yt r42 (yU g3 u3 e3 (hB _ _ (by simp only [em2,em3,em4,em5,ex2,ex3,ex4,ex5,t23,t24,t25,v2,t32,t34,t35,v3,t42,t43,t45,v4,t52,t53,t54,v5,yf])) ?_) (yU g5 u5 e5 (hD _ _ (by simp only [em2,em3,em4,em5,ex2,ex3,ex4,ex5,t23,t24,t25,v2,t32,t34,t35,v3,t42,t43,t45,v4,t52,t53,t54,v5,yf])) ?_)
   ·refine qw r423 (yU g5 u5 e5 (hD _ _ (by simp only [em2,em3,em4,em5,ex2,ex3,ex4,ex5,t23,t24,t25,v2,t32,t34,t35,v3,t42,t43,t45,v4,t52,t53,t54,v5,yf])) ?_)
    refine fin _ _ (by rw [Act.put_comm _ _ _ (show d4 ≠ d2 from fun h=>h24 h.symm),Act.put_comm _ _ _ (show d4 ≠ d3 from fun h=>h34 h.symm)]) ?_ ?_
    ·exact r4235
    ·exact r42356
   ·refine qw r425 (yU g3 u3 e3 (hB _ _ (by simp only [em2,em3,em4,em5,ex2,ex3,ex4,ex5,t23,t24,t25,v2,t32,t34,t35,v3,t42,t43,t45,v4,t52,t53,t54,v5,yf])) ?_)
    refine fin _ _ (by rw [Act.put_comm _ _ _ (show d4 ≠ d2 from fun h=>h24 h.symm),Act.put_comm _ _ _ (show d5 ≠ d3 from fun h=>h35 h.symm),Act.put_comm _ _ _ (show d4 ≠ d3 from fun h=>h34 h.symm)]) ?_ ?_
    ·exact r4253
    ·exact r42536
  ·refine qw r45 (yU g2 u2 e2 (hA _ (by simp only [em2,em3,em4,em5,ex2,ex3,ex4,ex5,t23,t24,t25,v2,t32,t34,t35,v3,t42,t43,t45,v4,t52,t53,t54,v5,yf]) (by simp only [em2,em3,em4,em5,ex2,ex3,ex4,ex5,t23,t24,t25,v2,t32,t34,t35,v3,t42,t43,t45,v4,t52,t53,t54,v5,yf])).2.1 ?_)
   refine qw r452 (yU g3 u3 e3 (hB _ _ (by simp only [em2,em3,em4,em5,ex2,ex3,ex4,ex5,t23,t24,t25,v2,t32,t34,t35,v3,t42,t43,t45,v4,t52,t53,t54,v5,yf])) ?_)
   refine fin _ _ (by rw [Act.put_comm _ _ _ (show d5 ≠ d2 from fun h=>h25 h.symm),Act.put_comm _ _ _ (show d5 ≠ d3 from fun h=>h35 h.symm),Act.put_comm _ _ _ (show d4 ≠ d2 from fun h=>h24 h.symm),Act.put_comm _ _ _ (show d4 ≠ d3 from fun h=>h34 h.symm)]) ?_ ?_
   ·exact r4523
   ·exact r45236
end Go.Eng
namespace Go.Eng
open Go.RowKit
def zjc (ds:List (Option Nat)) (st:St) (g:Option (Nat × Bool)) (A B:Prop):Prop :=
 match g with
 | none=>A
 | some (j,want)=>match ds[j]? with
  | some (some d)=>(match st.env d with
   | .bool b=>zsy (b == want) A B
   | .un=>B
   | _=>False)
  | _=>B
def zqr (P:Program) (o2 o3 o4 o5 o6:Oper) (st:St) (K:St->Prop):Prop :=
 ∃ (t kt et xT yT:TypeId) (op:BinOp) (m x:Operand) (d2 d3 d4 d5:Nat) (ag:Bool) (ks:List CK) (i:Nat) (B:Box) (ik:IntKind) (n c y:Int) (zv:V),
  ((o2.op = .lookup t m x false/\o2.dst = some d2/\o2.guard = none)/\(o3.op = .binOp op xT (.tmp d2) (.const (.int ik c)) yT/\o3.dst = some d3/\o3.guard = none)/\(o4.op = .mapEntry t m x/\o4.dst = some d4/\o4.guard = none) /\
   (o5.op = .extract (.tmp d4) 1/\o5.dst = some d5/\o5.guard = none)/\(o6.op = .entryStore t m (.tmp d5) (.tmp d3)/\o6.dst = none/\o6.guard = none)) /\
  (d2 ≠ d3/\d2 ≠ d4/\d2 ≠ d5/\d3 ≠ d4/\d3 ≠ d5/\d4 ≠ d5)/\(m ≠ .tmp d2/\m ≠ .tmp d3/\m ≠ .tmp d4/\m ≠ .tmp d5)/\(x ≠ .tmp d2/\x ≠ .tmp d3/\x ≠ .tmp d4/\x ≠ .tmp d5) /\
  (zk1 op ik n c = some (.int ik y)/\st.eval m = .mref i/\st.box i = some B/\ZX <= B.ty/\mapT P t = some (kt,et)/\zeroT P et = some zv/\(qU B.cells (st.eval x)).getD zv = .int ik n/\keyT P kt = some (ag,ks)/\KeyT P kt/\Yu ag ks (st.eval x)/\Z0 ag ks B.cells) /\
  K ((((((st.setBox i ⟨ZC B.cells (st.eval x) (.int ik y),B.ty⟩).put (some d2) (.int ik n) none).put (some d3) (.int ik y) none).put (some d4) .any none).put (some d5) .any none))
def Y4 (P:Program) (dr:Bool) (ds:List (Option Nat)):List Oper->St->(St->Prop)->Prop
 | [],st,K=>K st
 | o :: os,st,K=>zjc ds st o.guard (zcj P dr o st fun st'=>Y4 P dr ds os st' K) (Y4 P dr ds os (st.put o.dst .un none) K) ∨ (dr = true/\∃ o3 o4 o5 o6,os = [o3,o4,o5,o6]/\zqr P o o3 o4 o5 o6 st K)
def gdB (ds:List (Option Nat)) (st:St) (g:Option (Nat × Bool)):Option Bool :=
 match g with
 | none=>some true
 | some (j,want)=>match ds[j]? with
  | some (some d)=>(match st.env d with
   | .bool b=>some (b == want)
   | .un=>some false
   | _=>none)
  | _=>some false
theorem zqs (b:Bool) (A B:Prop):zsy b A B ↔ (b = true/\A) ∨ (b = false/\B):=by
 cases b <;> simp [zsy]
theorem Y5 {ds:List (Option Nat)} {st:St} {g:Option (Nat × Bool)} {A B:Prop}:zjc ds st g A B ↔ ((gdB ds st g = some true/\A) ∨ (gdB ds st g = some false/\B)):=by
 cases g with
 | none=>simp [zjc,gdB]
 | some jw =>
  obtain ⟨j,want⟩:=jw
  simp only [zjc,gdB]
  cases hd:ds[j]? with
  | none=>simp
  | some od =>
   cases od with
   | none=>simp
   | some d =>
    simp only
    cases he:st.env d <;> simp [zqs]
section
variable {P:Program} {n':Nat} {dr:Bool}
theorem Zj {F:Fr} {st:St} {a:Act} {w:World} {pr:Nat->Nat->Prop} {lam:Nat->Option Nat} {ops:Array Oper} {o:Oper} {b:Bool} (h:zl P F st a w pr lam) (hg:gdB (ops.toList.map (·.dst)) st o.guard = some b) :
  Region.wanted o (yielded ops a.tmps) = b:=by
 unfold gdB at hg
 unfold Region.wanted
 split at hg
 ·rename_i hq; rw [hq]; simpa using hg
 ·rename_i j want hq
  rw [hq]
  simp only
  split at hg
  ·rename_i d hd
   have hd':(ops[j]?).bind (·.dst) = some d:=by
    rw [List.getElem?_map,Array.getElem?_toList] at hd
    cases ho:ops[j]? with
    | none=>rw [ho] at hd; simp at hd
    | some o'=>rw [ho] at hd; simpa using hd
   have hr:=h.env d
   have hget:∀ v,a.tmps.getD d undef = v->v ≠ undef->a.tmps[d]? = some v:=by
    intro v hv hne
    by_cases hlt:d < a.tmps.size
    ·rw [<- hv]; simp [hlt]
    ·exfalso; apply hne; rw [<- hv]; simp [Array.getElem?_eq_none (by omega:a.tmps.size <= d)]
   split at hg
   ·rename_i b' hb'
    rw [hb'] at hr
    simp only [R] at hr
    have:=hget _ hr (by simp [undef])
    simp only [yielded,hd',zvP,this]
    simpa using hg
   ·rename_i hb'
    rw [hb'] at hr
    simp only [R] at hr
    have hy:yielded ops a.tmps j = none:=by
     simp only [yielded,hd',zvP]
     by_cases hlt:d < a.tmps.size
     ·have:a.tmps[d]? = some undef:=by rw [<- hr]; simp [hlt]
      rw [this]; rfl
     ·rw [Array.getElem?_eq_none (by omega)]
    rw [hy]
    simpa using hg
   ·cases hg
  ·rename_i hd
   have hy:yielded ops a.tmps j = none:=by
    unfold yielded
    rw [List.getElem?_map,Array.getElem?_toList] at hd
    cases ho:ops[j]? with
    | none=>rfl
    | some o' =>
     rw [ho] at hd
     simp only [zvP]
     cases hq':o'.dst with
     | none=>rfl
     | some d=>exact absurd (by rw [Option.map_some,hq']) (hd d)
   rw [hy]
   simpa using hg
theorem zl.putUn {F:Fr} {st:St} {a:Act} {w:World} {pr:Nat->Nat->Prop} {lam:Nat->Option Nat} (h:zl P F st a w pr lam) {dst:Option Nat} (hd:∀ d,dst = some d->d < F.nt) :
  zl P F (st.put dst .un none) (a.put dst undef) w pr lam:=h.put hd (by simp [R]) trivial
theorem zba (hdr:dr = false) {ops:Array Oper} {K:St->Prop}:∀ (l:List Oper) (i:Nat) (st:St),(∀ j,l[j]? = ops[i + j]?)->l.all (Zr n') = true->Y4 P dr (ops.toList.map (·.dst)) l st K ->
  ∀ (F:Fr) (a:Act) (w:World) (pr:Nat->Nat->Prop) (lam:Nat->Option Nat),F.nt = n'->zl P F st a w pr lam->∀ Q:Exit->Act->World->Prop,
   (∀ st' a' w' pr' lam',K st'->zl P F st' a' w' pr' lam'->Q .normal a' w')->wpOps P ops Q (List.range' i l.length) a w
 | [],i,st,_,_,h,F,a,w,pr,lam,_,hs,Q,hn=>by
  simp only [List.length_nil,List.range'_zero,wpOps]
  exact hn st a w pr lam h hs
 | o :: os,i,st,hl,hall,h,F,a,w,pr,lam,hF,hs,Q,hn=>by
  have h0:ops[i]? = some o:=by simpa using (hl 0).symm
  simp only [List.all_cons,zvL] at hall
  have hl':∀ j,os[j]? = ops[i + 1 + j]?:=fun j=>by have:=hl (j + 1); simpa [Nat.add_assoc,Nat.add_comm 1 j] using this
  simp only [List.length_cons,List.range'_succ,wpOps,h0]
  simp only [Y4] at h
  rcases h with h | ⟨h,_⟩
  rotate_left
  ·rw [hdr] at h; cases h
  rcases Y5.1 h with ⟨hg,h⟩ | ⟨hg,h⟩
  ·rw [Zj hs hg]
   simp only [if_true]
   left
   exact ZB hall.1 h F a w pr lam hF hs _ _ fun st' a' w' pr' lam' hk hs'=>zba hdr os (i + 1) st' hl' hall.2 hk F a' w' pr' lam' hF hs' Q hn
  ·rw [Zj hs hg]
   simp only [Bool.false_eq_true,if_false]
   exact zba hdr os (i + 1) _ hl' hall.2 h F _ w pr lam hF (hs.putUn (by rw [hF]; exact yO hall.1)) Q hn
theorem put_comm (st:St) {x y:Option Nat} (v u:V) (tv tu:Option (Nat × TypeId)) (h:∀ d,x = some d->y ≠ some d):(st.put x v tv).put y u tu = (st.put y u tu).put x v tv:=by
 cases x with
 | none=>rfl
 | some d =>
  cases y with
  | none=>rfl
  | some e =>
   have hne:d ≠ e:=fun hde=>h d rfl (by rw [hde])
   simp only [St.put]
   congr 1
   funext s
   simp only [upd]
   by_cases h1:s = d
   ·have h2:¬ s = e:=fun h2=>hne (h1.symm.trans h2)
    rw [if_neg h2,if_pos h1,if_pos h1]
   ·rw [if_neg h1]
    by_cases h2:s = e
    ·rw [if_pos h2,if_neg h1]
    ·rw [if_neg h2,if_neg h1]
theorem zkT {st:St} {dst:Option Nat} {v:V} {tk:Option (Nat × TypeId)} {ops:Array Oper} {o:Oper} (h:∀ d,dst = some d->d ∉ o.looksAt ops) :
  (∀ x ∈ o.op.operands,(st.put dst v tk).eval x = st.eval x/\(st.put dst v tk).tokOf x = st.tokOf x)/\gdB (ops.toList.map (·.dst)) (st.put dst v tk) o.guard = gdB (ops.toList.map (·.dst)) st o.guard:=by
 cases dst with
 | none=>exact ⟨fun _ _=>⟨rfl,rfl⟩,rfl⟩
 | some d =>
  have hd:=h d rfl
  simp only [Oper.looksAt,zvA,not_or] at hd
  constructor
  ·intro x hx
   cases x with
   | tmp t =>
    have hne:t ≠ d:=by
     rintro rfl
     apply hd.1
     rw [List.mem_filterMap]
     exact ⟨.tmp t,by simpa using hx,rfl⟩
    simp only [St.eval,St.tokOf,St.env_put,St.tok_put,upd,if_neg hne,and_self]
   | const v=>exact ⟨rfl,rfl⟩
   | global g=>exact ⟨rfl,rfl⟩
   | func f=>exact ⟨rfl,rfl⟩
  ·unfold gdB
   cases hg:o.guard with
   | none=>rfl
   | some gw =>
    obtain ⟨j,want⟩:=gw
    simp only
    cases hds:(ops.toList.map (·.dst))[j]? with
    | none=>rfl
    | some od =>
     cases od with
     | none=>rfl
     | some d' =>
      simp only
      have hne:d' ≠ d:=by
       rintro rfl
       apply hd.2
       rw [hg]
       rw [List.getElem?_map,Array.getElem?_toList] at hds
       cases ho:ops[j]? with
       | none=>rw [ho] at hds; simp at hds
       | some o' =>
        rw [ho] at hds
        simp at hds
        simp only [ho,zvP,hds]
        simp
      simp only [St.env_put,upd,if_neg hne]
theorem Zl.mono {o:Oper} {st:St} {K K':St->Prop} (h:Zl P n' o st K) (hk:∀ st,K st->K' st):Zl P n' o st K' :=
 fun F a w pr lam hF hs next Q hn=>h F a w pr lam hF hs next Q fun st' a' w' pr' lam' k r=>hn st' a' w' pr' lam' (hk st' k) r
def yV (o:Oper):Bool:=match o.op with
 | .box .. | .alloc _ | .store .. | .mapUpdate .. | .makeMap ..=>true
 | _=>false
def Qu (o:Oper):Bool:=match o.op with
 | .call { callee:=.builtin .append,.. }=>true
 | _=>false
def ancB (ops:Array Oper):Nat->Nat->Nat->Bool
 | 0,_,_=>false
 | fuel + 1,j,i=>match ops[j]? with
  | some o=>o.after.toList.any fun e=>Region.binds .any e && (e.on == i || ancB ops fuel e.on i)
  | none=>false
def pinned (ops:Array Oper) (k:Nat):Bool :=
 (List.range ops.size).all fun i=>i == k || (if i < k then ancB ops ops.size k i else ancB ops ops.size i k)
def Cl (ops:Array Oper) (listed:Array Bool):Prop :=
 ∀ (j:Nat) (oj:Oper),ops[j]? = some oj->listed.getD j false = true->∀ e ∈ oj.after,Region.binds .any e = true->listed.getD e.on false = true
theorem anc_listed {ops:Array Oper} {listed:Array Bool} (hc:Cl ops listed) {i:Nat}:∀ (fuel j:Nat),ancB ops fuel j i = true ->
  (∀ oj,ops[j]? = some oj->∀ e ∈ oj.after,Region.binds .any e = true->listed.getD e.on false = true)->listed.getD i false = true
 | 0,_,h,_=>by simp [ancB] at h
 | fuel + 1,j,h,hj=>by
  simp only [ancB] at h
  split at h
  ·rename_i o ho
   rw [List.any_eq_true] at h
   obtain ⟨e,he,h⟩:=h
   simp only [zvL,Bool.or_eq_true,beq_iff_eq] at h
   have hl:=hj o ho e (by simpa using he) h.1
   rcases h.2 with h2 | h2
   ·rw [<- h2]; exact hl
   ·exact anc_listed hc fuel e.on h2 fun oj hoj e' he' hb'=>hc e.on oj hoj hl e' he' hb'
  ·cases h
theorem unlisted_of {listed:Array Bool} {i:Nat} (h:listed.getD i true = false):listed.getD i false = false:=by
 rcases Nat.lt_or_ge i listed.size with h' | h'
 ·simpa [h'] using h
 ·simp [Array.getElem?_eq_none h'] at h
theorem zcQ {ops:Array Oper} {listed:Array Bool} (hc:Cl ops listed) {i j:Nat} (hp:pinned ops j = true) (hi:i ∈ Region.ready .any ops listed) (hj:j ∈ Region.ready .any ops listed):i = j:=by
 apply Classical.byContradiction
 intro hne
 obtain ⟨ui,oi,hoi,ai⟩:=mem_ready.1 hi
 obtain ⟨uj,oj,hoj,aj⟩:=mem_ready.1 hj
 unfold pinned at hp
 rw [zvS] at hp
 have hlt:i < ops.size:=(Array.getElem?_eq_some_iff.1 hoi).1
 have h:=hp i (by simpa using hlt)
 simp only [Bool.or_eq_true,beq_iff_eq,hne,false_or] at h
 split at h
 ·have:=anc_listed hc _ j h (fun o ho e he hb=>by rw [hoj] at ho; cases ho; exact aj e he hb)
  rw [unlisted_of ui] at this; cases this
 ·have:=anc_listed hc _ i h (fun o ho e he hb=>by rw [hoi] at ho; cases ho; exact ai e he hb)
  rw [unlisted_of uj] at this; cases this
theorem Cl.step {ops:Array Oper} {listed:Array Bool} (hc:Cl ops listed) {i:Nat} (hi:i ∈ Region.ready .any ops listed):Cl ops (listed.setIfInBounds i true):=by
 intro j oj hoj hl e he hb
 obtain ⟨ui,oi,hoi,ai⟩:=mem_ready.1 hi
 by_cases hji:j = i
 ·subst hji
  rw [hoi] at hoj; cases hoj
  exact getD_set_true (ai e he hb)
 ·rw [getD_set_ne false (Ne.symm hji)] at hl
  exact getD_set_true (hc j oj hoj hl e he hb)
def zfw (ops:Array Oper) (i j:Nat):Prop:=ancB ops ops.size i j = true ∨ ancB ops ops.size j i = true
theorem zhF {ops:Array Oper} {listed:Array Bool} (hc:Cl ops listed) {i j:Nat} (hp:zfw ops i j) (hi:i ∈ Region.ready .any ops listed) (hj:j ∈ Region.ready .any ops listed):False:=by
 obtain ⟨ui,oi,hoi,ai⟩:=mem_ready.1 hi
 obtain ⟨uj,oj,hoj,aj⟩:=mem_ready.1 hj
 rcases hp with h | h
 ·have:=anc_listed hc _ i h (fun o ho e he hb=>by rw [hoi] at ho; cases ho; exact ai e he hb)
  rw [unlisted_of uj] at this; cases this
 ·have:=anc_listed hc _ j h (fun o ho e he hb=>by rw [hoj] at ho; cases ho; exact aj e he hb)
  rw [unlisted_of ui] at this; cases this
inductive Ef where
 | put (v:V)
 | copy (x:Operand)
 | cl (v:V) (t:Nat) (e:TypeId)
 | new (i:Nat) (B:Box)
 | sto (k:Nat) (B:Box)
def Ef.val (st:St):Ef->V
 | .put v=>v
 | .copy x=>st.eval x
 | .cl v _ _=>v
 | .new i _=>.loc i 0
 | .sto _ _=>.any
def Ef.tk (st:St):Ef->Option (Nat × TypeId)
 | .put _=>none
 | .copy x=>st.tokOf x
 | .cl _ t e=>some (t,e)
 | .new _ _=>none
 | .sto _ _=>none
def Ef.c:Ef->Option Nat
 | .cl _ t _=>some t
 | _=>none
def clT (c:Option Nat) (tk:Option (Nat × TypeId)):Option (Nat × TypeId):=match c with
 | none=>tk
 | some t=>(clr t (.any,tk)).2
def Ef.nb:Ef->Nat
 | .new _ _=>1
 | _=>0
def Ef.bx (G:Ef) (bx:Nat->Option Box):Nat->Option Box:=match G with
 | .new i B=>upd bx i (some B)
 | .sto k B=>upd bx k (some B)
 | _=>bx
def Ef.app (G:Ef) (dst:Option Nat) (st:St):St :=
 { nb:=st.nb + G.nb,sl:=fun s=>if dst = some s then (G.val st,G.tk st) else ((st.sl s).1,clT G.c (st.sl s).2),box:=G.bx st.box }
theorem Q2 (c:Option Nat):clT c none = none:=by cases c <;> rfl
theorem zqt (c d:Option Nat) (tk:Option (Nat × TypeId)):clT c (clT d tk) = clT d (clT c tk):=by
 cases c with
 | none=>rfl
 | some c =>
  cases d with
  | none=>rfl
  | some d =>
   cases tk with
   | none=>rfl
   | some te =>
    obtain ⟨t,e⟩:=te
    simp only [clT,clr]
    by_cases h1:t = c ∨ t = c + 3000000 <;> by_cases h2:t = d ∨ t = d + 3000000 <;> simp [h1,h2]
theorem zkU {c:Option Nat} {tk:Option (Nat × TypeId)} {t:Nat} {e:TypeId} (h:clT c tk = some (t,e)):tk = some (t,e):=by
 cases c with
 | none=>exact h
 | some c =>
  cases tk with
  | none=>cases h
  | some te =>
   obtain ⟨t',e'⟩:=te
   simp only [clT,clr] at h
   split at h
   ·cases h
   ·exact h
theorem zkV {c:Option Nat} {t:Nat} {e:TypeId} (ht:tcl t < 2) (h:∀ t',c = some t'->t ≠ t'):clT c (some (t,e)) = some (t,e):=by
 cases c with
 | none=>rfl
 | some c =>
  simp only [clT,clr]
  rw [if_neg]
  rintro (q | q)
  ·exact h c rfl q
  ·subst q
   unfold tcl at ht
   omega
theorem Ef.app_put (v:V) (dst:Option Nat) (st:St):(Ef.put v).app dst st = st.put dst v none:=by
 cases dst with
 | none=>simp [Ef.app,Ef.c,clT,St.put,Ef.nb,Ef.bx]
 | some d =>
  simp only [Ef.app,Ef.c,clT,St.put,Ef.val,Ef.tk,Ef.nb,Ef.bx,Nat.add_zero,zvO]
  congr 1
  funext s
  simp only [upd]
  by_cases h:s = d
  ·subst h; simp
  ·rw [if_neg (fun q=>h q.symm),if_neg h]
theorem Ef.app_new (i:Nat) (B:Box) (dst:Option Nat) (st:St):(Ef.new i B).app dst st = St.put { st with nb:=st.nb + 1,box:=upd st.box i (some B) } dst (.loc i 0) none:=by
 cases dst with
 | none=>simp [Ef.app,Ef.c,clT,St.put,Ef.nb,Ef.bx]
 | some d =>
  simp only [Ef.app,Ef.c,clT,St.put,Ef.val,Ef.tk,Ef.nb,Ef.bx,zvO]
  congr 1
  funext s
  simp only [upd]
  by_cases h:s = d
  ·subst h; simp
  ·rw [if_neg (fun q=>h q.symm),if_neg h]
theorem Ef.app_sto (k:Nat) (B:Box) (st:St):(Ef.sto k B).app none st = st.setBox k B:=by
 simp [Ef.app,Ef.c,clT,Ef.nb,Ef.bx,St.setBox]
theorem Ef.app_copy (x:Operand) (dst:Option Nat) (st:St):(Ef.copy x).app dst st = st.put dst (st.eval x) (st.tokOf x):=by
 cases dst with
 | none=>simp [Ef.app,Ef.c,clT,St.put,Ef.nb,Ef.bx]
 | some d =>
  simp only [Ef.app,Ef.c,clT,St.put,Ef.val,Ef.tk,Ef.nb,Ef.bx,Nat.add_zero,zvO]
  congr 1
  funext s
  simp only [upd]
  by_cases h:s = d
  ·subst h; simp
  ·rw [if_neg (fun q=>h q.symm),if_neg h]
theorem Ef.app_cl (v:V) (t:Nat) (e:TypeId) (dst:Option Nat) (st:St):(Ef.cl v t e).app dst st = (st.clear t).put dst v (some (t,e)):=by
 cases dst with
 | none=>simp [Ef.app,Ef.c,clT,St.put,St.clear,clr,Ef.nb,Ef.bx]
 | some d =>
  simp only [Ef.app,Ef.c,clT,St.put,Ef.val,Ef.tk,Ef.nb,Ef.bx,Nat.add_zero,zvO,St.clear]
  congr 1
  funext s
  simp only [upd]
  by_cases h:s = d
  ·subst h; simp
  ·rw [if_neg (fun q=>h q.symm),if_neg h]; rfl
theorem Ef.comm {Gi Gj:Ef} {di dj:Option Nat} {st:St} (hd:∀ d,di = some d->dj ≠ some d) (hvi:Gi.val (Gj.app dj st) = Gi.val st) (hvj:Gj.val (Gi.app di st) = Gj.val st)
  (hti:Gi.tk (Gj.app dj st) = clT Gj.c (Gi.tk st)) (htj:Gj.tk (Gi.app di st) = clT Gi.c (Gj.tk st)) (hnn:∀ i B j C,Gi = .new i B->Gj = .new j C->i ≠ j) (hns:∀ i B k C,Gi = .new i B->Gj ≠ .sto k C) (hni:∀ k C,Gi ≠ .sto k C):Gj.app dj (Gi.app di st) = Gi.app di (Gj.app dj st):=by
 have hbx:Gj.bx (Gi.bx st.box) = Gi.bx (Gj.bx st.box):=by
  cases Gi with
  | sto k C=>exact absurd rfl (hni k C)
  | new i B =>
   cases Gj with
   | sto k C=>exact absurd rfl (hns i B k C rfl)
   | new j C =>
    have hne:=hnn i B j C rfl rfl
    funext k
    simp only [Ef.bx,upd]
    by_cases h1:k = i
    ·subst h1; simp [hne]
    ·by_cases h2:k = j
     ·subst h2; simp [h1]
     ·simp [h1,h2]
   | _=>rfl
  | _=>rfl
 unfold Ef.app at *
 simp only at *
 have hnb:st.nb + Gi.nb + Gj.nb = st.nb + Gj.nb + Gi.nb:=by omega
 rw [hbx,hnb]
 congr 1
 funext s
 by_cases h1:di = some s
 ·have h2:¬ dj = some s:=hd s h1
  simp only [h1,h2,if_true,if_false]
  rw [hvi,hti]
 ·by_cases h2:dj = some s
  ·simp only [h1,h2,if_true,if_false]
   rw [hvj,htj]
  ·simp only [h1,h2,if_false]
   rw [zqt]
def Qv (P:Program) (rv:V) (tok:Option (Nat × TypeId)) (x:V) (t u:TypeId) (v:V) (tk:Nat) (e:TypeId):Prop :=
 match rv,tok,yZ P t with
 | .list rows,some (tk',e0),some e'=>(match sizeT P e0,bytesT P e0,zeroT P e0 with
  | some sz,some by',some zv=>(tk' = tk/\e0 = e)/\(e0 = e'/\tcl tk' < 2/\srcT P u = true/\zv.csize = some sz/\by' ≠ 0)/\yL sz rows/\(match x with
   | .list rows2=>yL sz rows2/\(rows.length + rows2.length) * by' <= 140737488355328/\v = .list (rows++rows2)
   | .str l=>sz = 1/\(rows.length + l.length) * by' <= 140737488355328/\v = .list (rows++yS l)
   | _=>False)
  | _,_,_=>False)
 | _,_,_=>False
theorem zmH {st:St} {ss:Nat} {x:V} {t u:TypeId} {dst:Option Nat} {K:St->Prop} (h:Ys P st ss x t u dst K) :
  ∃ v tk e,Qv P (st.env ss) (st.tok ss) x t u v tk e/\K ((st.clear tk).put dst v (some (tk,e))):=by
 unfold Ys at h
 split at h
 ·rename_i rows tk e e' h1 h2 h3
  split at h
  ·rename_i sz by' zv h4 h5 h6
   obtain ⟨q1,q2,q3⟩:=h
   split at q3
   ·obtain ⟨q3,q4,q5⟩:=q3
    refine ⟨_,tk,e,?_,q5⟩
    unfold Qv
    rw [h1,h2,h3]
    simp only [h4,h5,h6]
    exact ⟨⟨trivial,trivial⟩,q1,q2,q3,q4,trivial⟩
   ·obtain ⟨q3,q4,q5⟩:=q3
    refine ⟨_,tk,e,?_,q5⟩
    unfold Qv
    rw [h1,h2,h3]
    simp only [h4,h5,h6]
    exact ⟨⟨trivial,trivial⟩,q1,q2,q3,q4,trivial⟩
   ·exact q3.elim
  ·exact h.elim
 ·exact h.elim
theorem zmI {st:St} {ss:Nat} {x:V} {t u:TypeId} {dst:Option Nat} {K:St->Prop} {v:V} {tk:Nat} {e:TypeId} (h:Qv P (st.env ss) (st.tok ss) x t u v tk e) (hk:K ((st.clear tk).put dst v (some (tk,e)))) :
  Ys P st ss x t u dst K:=by
 unfold Qv at h
 split at h
 ·rename_i rows tk' e0 e' h1 h2 h3
  split at h
  ·rename_i sz by' zv h4 h5 h6
   obtain ⟨⟨rfl,rfl⟩,q1,q2,q3⟩:=h
   unfold Ys
   rw [h1,h2,h3]
   simp only [h4,h5,h6]
   refine ⟨q1,q2,?_⟩
   split at q3
   ·obtain ⟨q3,q4,rfl⟩:=q3
    exact ⟨q3,q4,hk⟩
   ·obtain ⟨q3,q4,rfl⟩:=q3
    exact ⟨q3,q4,hk⟩
   ·exact q3.elim
  ·exact h.elim
 ·exact h.elim
theorem ZK {rv:V} {tok:Option (Nat × TypeId)} {x:V} {t u:TypeId} {v:V} {tk:Nat} {e:TypeId} (h:Qv P rv tok x t u v tk e):tok = some (tk,e)/\tcl tk < 2:=by
 unfold Qv at h
 split at h
 ·split at h
  ·obtain ⟨⟨rfl,rfl⟩,q1,_⟩:=h
   exact ⟨rfl,q1.2.1⟩
  ·exact h.elim
 ·exact h.elim
def newB (o:Oper):Bool:=match o.op with
 | .box .. | .alloc _=>true
 | _=>false
def zsA (P:Program) (o:Oper) (st:St) (B:Box):Prop:=∃ v n,v.csize = some n/\B = ⟨v.cellsL,B.ty⟩/\B.ty < ZX/\((∃ x,o.op = .box B.ty x/\st.eval x = v) ∨ (o.op = .alloc B.ty/\zeroT P B.ty = some v))
def stoO (o:Oper):Bool:=match o.op with
 | .store ..=>true
 | _=>false
theorem zkW {o:Oper} (h:stoO o = true):yV o = true:=by
 unfold stoO at h
 unfold yV
 split at h
 ·rename_i ho; rw [ho]
 ·cases h
theorem zqu {o:Oper} (h:newB o = true):yV o = true:=by
 unfold newB at h
 unfold yV
 split at h
 ·rename_i ho; rw [ho]
 ·rename_i ho; rw [ho]
 ·cases h
theorem zkX {o:Oper} (h:newB o = true):stoO o = false:=by
 unfold newB at h
 unfold stoO
 split at h
 ·rename_i ho; rw [ho]
 ·rename_i ho; rw [ho]
 ·cases h
theorem zqv {o:Oper} (h:yV o = false):newB o = false:=by
 cases q:newB o with
 | false=>rfl
 | true=>rw [zqu q] at h; cases h
theorem zqw {o:Oper} (h:yV o = false):stoO o = false:=by
 cases q:stoO o with
 | false=>rfl
 | true=>rw [zkW q] at h; cases h
def zjd (P:Program) (o:Oper) (st:St) (k:Nat) (C:Box):Prop:=∃ t d y n B off,o.op = .store t (.tmp d) y/\o.dst = none/\st.env d = .loc k off/\st.box k = some B/\B.ty < 1000000000/\sizeT P t = some n/\(st.eval y).csize = some n/\off + n <= B.cells.length /\
 C = ⟨B.cells.take off++(st.eval y).cellsL++B.cells.drop (off + n),B.ty⟩
def Ef.can (P:Program) (o:Oper) (β:Nat->Option Box) (st:St):Ef->Prop
 | .put v=>(newB o = false/\stoO o = false)/\∃ fr,QV P o st.eval β v fr
 | .new i B=>newB o = true/\st.box i = none/\zsA P o st B
 | .sto k C=>zjd P o st k C
 | .copy x=>o.op = .move x ∨ o.op = .assign x
 | .cl v t e=>(Y2 o = true/\o.dst = some (t % 1000000)/\tcl t < 2/\QV P o st.eval β v (some (tcl t,e))) ∨
   ∃ ss x ta tb args tys,o.op = .call { callee:=.builtin .append,args:=args,argTypes:=tys }/\args.toList = [.tmp ss,x]/\tys.toList = [ta,tb]/\Qv P (st.env ss) (st.tok ss) (st.eval x) ta tb v t e
def zb1 (P:Program) (ops:Array Oper) (o:Oper) (G:Ef) (β:Nat->Option Box) (st:St):Prop :=
 (gdB (ops.toList.map (·.dst)) st o.guard = some true/\G.can P o β st) ∨ (gdB (ops.toList.map (·.dst)) st o.guard = some false/\G = .put .un)
def zaS (P:Program) (n':Nat) (ops:Array Oper) (i:Nat) (K:St->Prop) (st:St):Prop :=
 match ops[i]? with
 | none=>K st
 | some o=>(∃ G,zb1 P ops o G st.box st/\K (G.app o.dst st)) ∨ ((yV o = true/\pinned ops i = true)/\gdB (ops.toList.map (·.dst)) st o.guard = some true/\Zl P n' o st K)
theorem zmJ {ops:Array Oper} {i:Nat} {K K':St->Prop} {st:St} (hk:∀ st,K st->K' st) (h:zaS P n' ops i K st):zaS P n' ops i K' st:=by
 unfold zaS at *
 split
 ·rename_i ho; rw [ho] at h; exact hk _ h
 ·rename_i o ho
  rw [ho] at h
  rcases h with ⟨G,h1,h2⟩ | ⟨h1,h2,h3⟩
  ·exact .inl ⟨G,h1,hk _ h2⟩
  ·exact .inr ⟨h1,h2,h3.mono hk⟩
theorem Ef.can_ok {o:Oper} {st:St} {G:Ef} {K:St->Prop} (hd:Zr n' o = true) (h:G.can P o st.box st) (hk:K (G.app o.dst st)):Zl P n' o st K:=by
 have hd':=yO hd
 cases G with
 | sto k C =>
  obtain ⟨t,d,y,n,B,off,h1,h2,h3,h4,h5,h6,h7,h8,rfl⟩:=h
  rw [h2,Ef.app_sto] at hk
  refine ZB (dr:=true) hd (.inl ?_)
  unfold Zq
  rw [h1]
  simp only [Qs,St.eval,h3,h4,h6]
  exact ⟨h5,h7,h8,h2,hk⟩
 | new i B =>
  obtain ⟨_,hi,v,n,hv,hB,hty,h⟩:=h
  rw [Ef.app_new] at hk
  have hk':K ((St.setBox { st with nb:=st.nb + 1 } i ⟨v.cellsL,B.ty⟩).put o.dst (.loc i 0) none):=by rw [<- hB]; exact hk
  have hs:∀ {F:Fr} {a:Act} {w:World} {pr:Nat->Nat->Prop} {lam:Nat->Option Nat},zl P F st a w pr lam->zl P F { st with nb:=st.nb + 1 } a w pr lam:=fun h =>
   ⟨h.size,h.defers,h.env,h.own,h.coh,h.box,h.inj,h.apart,h.nolam,h.prlt,h.keep,h.prsub,h.prnew,h.lamsub,h.coh2,h.old,h.ptr⟩
  rcases h with ⟨x,ho,hx⟩ | ⟨ho,hz⟩
  ·intro F a w pr lam hF h
   exact zk7 (st:={ st with nb:=st.nb + 1 }) ho (by rw [<- hx]; cases x <;> rfl) hv hi hty hd' hk' F a w pr lam hF (hs h)
  ·intro F a w pr lam hF h
   exact zga (st:={ st with nb:=st.nb + 1 }) ho hz hv hi hty hd' hk' F a w pr lam hF (hs h)
 | put v =>
  obtain ⟨_,fr,h⟩:=h
  rw [Ef.app_put] at hk
  exact qz h (tk:=none) (fun _ _ h=>by cases h) hd' hk
 | copy x =>
  rw [Ef.app_copy] at hk
  exact zdU h hd' hk
 | cl v t e =>
  rw [Ef.app_cl] at hk
  rcases h with ⟨_,_,_,h⟩ | ⟨ss,x,ta,tb,args,tys,h1,h2,h3,h4⟩
  ·exact qz h (tk:=some (t,e)) (fun _ _ h=>by cases h; rfl) hd' hk
  ·refine ZB (dr:=true) hd (.inl ?_)
   unfold Zq
   rw [h1]
   simp only [h2,h3]
   exact zmI h4 hk
def zuF (P:Program) (ops:Array Oper) (Q:St->Prop) (fuel:Nat) (listed:Array Bool) (st:St):Prop :=
 ∃ k o2 o3 o4 o5 o6,ops.size = k + 5/\fuel = 4/\ops[k]? = some o2/\ops[k + 1]? = some o3/\ops[k + 2]? = some o4/\ops[k + 3]? = some o5/\ops[k + 4]? = some o6/\zqr P o2 o3 o4 o5 o6 st Q/\rsB ops listed k = true /\
  (∀ i,i < k->ancB ops ops.size k i = true/\ancB ops ops.size (k + 2) i = true)/\∀ i,k <= i->listed.getD i true = true->ops.size <= i
def zpl (P:Program) (n':Nat) (ops:Array Oper) (Q:St->Prop):Nat->Array Bool->St->Prop
 | 0,listed,st=>Region.ready .any ops listed = []/\Q st
 | fuel + 1,listed,st=>((Region.ready .any ops listed = []->Q st)/\∀ i ∈ Region.ready .any ops listed,zaS P n' ops i (zpl P n' ops Q fuel (listed.setIfInBounds i true)) st) ∨ zuF P ops Q fuel listed st
theorem Zs {ops:Array Oper} {K:St->Prop} (hall:∀ (i:Nat) (o:Oper),ops[i]? = some o->Zr n' o = true) {F:Fr} (hF:F.nt = n') {Q:Exit->Act->World->Prop}
  (hn:∀ st' a' w' pr' lam',K st'->zl P F st' a' w' pr' lam'->Q .normal a' w'):∀ (fuel:Nat) (listed:Array Bool) (st:St) (a:Act) (w:World) (pr:Nat->Nat->Prop) (lam:Nat->Option Nat),zl P F st a w pr lam ->
   zpl P n' ops K fuel listed st->wpAny P .any ops Q fuel listed a w
 | 0,_,st,a,w,pr,lam,hs,h=>⟨h.1,hn st a w pr lam h.2 hs⟩
 | fuel + 1,listed,st,a,w,pr,lam,hs,h=>by
  rcases h with h | ⟨k,o2,o3,o4,o5,o6,hsz,rfl,g2,g3,g4,g5,g6,⟨t,kt,et,xT,yT,op,m,x,d2,d3,d4,d5,ag,ks,i,B,ik,n,c,y,zv,⟨⟨p2,e2,u2⟩,⟨p3,e3,u3⟩,⟨p4,e4,u4⟩,⟨p5,e5,u5⟩,⟨p6,e6,u6⟩⟩,⟨h23,h24,h25,h34,h35,h45⟩,⟨m2,m3,m4,m5⟩,⟨x2,x3,x4,x5⟩,⟨q1,q2,q3,q4,q5,q6,q7,q8,q9,q10,q11⟩,hk⟩,hrs,_,_⟩
  rotate_left
  ·have b2:=yO (hall _ _ g2) _ e2
   have b3:=yO (hall _ _ g3) _ e3
   have b4:=yO (hall _ _ g4) _ e4
   have b5:=yO (hall _ _ g5) _ e5
   obtain ⟨t4,t5,w1,w3,hA,hB,hD,hE,hQ⟩:=zva p2 p3 p4 p5 p6 q1 b2 b3 b4 b5 q2 q3 q4 q5 q6 q7 q8 q9 q10 q11 hk F a w pr lam hF hs (Q .normal) hn
   have sz:=hs.size
   rw [hF] at sz
   exact zpk hrs g2 g3 g4 g5 g6 u2 u3 u4 u5 u6 e2 e3 e4 e5 e6 h23 h24 h25 h34 h35 h45 m2 m3 m4 m5 x2 x3 x4 x5 (by rw [sz]; exact b2) (by rw [sz]; exact b3) (by rw [sz]; exact b4) (by rw [sz]; exact b5) hA hB hD hE hQ
  refine ⟨fun h0=>hn st a w pr lam (h.1 h0) hs,fun i hi=>?_⟩
  have hq:=h.2 i hi
  unfold zaS at hq
  unfold wpOp
  split
  ·rename_i ho; rw [ho] at hq; exact Zs hall hF hn fuel _ st a w pr lam hs hq
  ·rename_i o ho
   rw [ho] at hq
   have hd:=yO (hall i o ho)
   rcases hq with ⟨G,⟨hg,hv⟩ | ⟨hg,rfl⟩,hk⟩ | ⟨_,hg,hk⟩
   ·rw [Zj hs hg]
    simp only [if_true]
    left
    exact Ef.can_ok (K:=fun st'=>zpl P n' ops K fuel (listed.setIfInBounds i true) st') (hall i o ho) hv hk F a w pr lam hF hs _ _ fun st' a' w' pr' lam' hk' hs'=>Zs hall hF hn fuel _ st' a' w' pr' lam' hs' hk'
   ·rw [Zj hs hg]
    simp only [Bool.false_eq_true,if_false]
    rw [Ef.app_put] at hk
    exact Zs hall hF hn fuel _ _ _ w pr lam (hs.putUn (by rw [hF]; exact hd)) hk
   ·rw [Zj hs hg]
    simp only [if_true]
    left
    exact hk F a w pr lam hF hs _ _ fun st' a' w' pr' lam' hk' hs'=>Zs hall hF hn fuel _ st' a' w' pr' lam' hs' hk'
theorem zcR {G:Ef} {dst:Option Nat} {st:St} {s:Nat} (h:dst ≠ some s):(G.app dst st).env s = st.env s:=by
 show (if dst = some s then _ else _:V × Option (Nat × TypeId)).1 = _
 rw [if_neg h]; rfl
theorem zfx {G:Ef} {dst:Option Nat} {st:St} {s:Nat} (h:dst ≠ some s):(G.app dst st).tok s = clT G.c (st.tok s):=by
 show (if dst = some s then _ else _:V × Option (Nat × TypeId)).2 = _
 rw [if_neg h]; rfl
theorem zdL {dst:Option Nat} {ops:Array Oper} {o:Oper} (h:∀ d,dst = some d->d ∉ o.looksAt ops):∀ s,Operand.tmp s ∈ o.op.operands->dst ≠ some s:=by
 intro s hs hd
 have hd:=h s hd
 simp only [Oper.looksAt,zvA,not_or] at hd
 apply hd.1
 rw [List.mem_filterMap]
 exact ⟨.tmp s,by simpa using hs,rfl⟩
theorem zbb {G:Ef} {dst:Option Nat} {st:St} {ops:Array Oper} {o:Oper} (h:∀ d,dst = some d->d ∉ o.looksAt ops) :
  (∀ x ∈ o.op.operands,(G.app dst st).eval x = st.eval x/\(G.app dst st).tokOf x = clT G.c (st.tokOf x))/\gdB (ops.toList.map (·.dst)) (G.app dst st) o.guard = gdB (ops.toList.map (·.dst)) st o.guard:=by
 constructor
 ·intro x hx
  cases x with
  | tmp t =>
   have hne:=zdL h t hx
   exact ⟨zcR hne,zfx hne⟩
  | const v=>exact ⟨rfl,(Q2 _).symm⟩
  | global g=>exact ⟨rfl,(Q2 _).symm⟩
  | func f=>exact ⟨rfl,(Q2 _).symm⟩
 ·unfold gdB
  cases hg:o.guard with
  | none=>rfl
  | some gw =>
   obtain ⟨j,want⟩:=gw
   simp only
   cases hds:(ops.toList.map (·.dst))[j]? with
   | none=>rfl
   | some od =>
    cases od with
    | none=>rfl
    | some d' =>
     simp only
     have hne:dst ≠ some d':=by
      intro hq
      have hd:=h d' hq
      simp only [Oper.looksAt,zvA,not_or] at hd
      apply hd.2
      rw [hg]
      rw [List.getElem?_map,Array.getElem?_toList] at hds
      cases ho:ops[j]? with
      | none=>rw [ho] at hds; simp at hds
      | some o' =>
       rw [ho] at hds
       simp at hds
       simp only [ho,zvP,hds]
       simp
     rw [zcR hne]
theorem QV.congr {o:Oper} {ρ ρ':Operand->V} {bx:Nat->Option Box} {v:V} {fr:Option (Nat × TypeId)} (hq:QV P o ρ bx v fr) (he:∀ x ∈ o.op.operands,ρ' x = ρ x):QV P o ρ' bx v fr :=
 fun a w pr lam h1 h2=>hq a w pr lam h1 fun x hx=>by rw [<- he x hx]; exact h2 x hx
theorem zcS {o:Oper} {ss:Nat} {x:Operand} {args:Array Operand} {tys:Array TypeId} (h1:o.op = .call { callee:=.builtin .append,args:=args,argTypes:=tys }) (h2:args.toList = [.tmp ss,x]) :
  Operand.tmp ss ∈ o.op.operands/\x ∈ o.op.operands:=by
 obtain ⟨l⟩:=args
 simp only at h2
 subst h2
 rw [h1]
 simp [Op.operands,Call.operands]
theorem QV.more {o:Oper} {ρ:Operand->V} {bx bx':Nat->Option Box} {v:V} {fr:Option (Nat × TypeId)} (hq:QV P o ρ bx v fr) (hb:∀ i B,bx i = some B->bx' i = some B):QV P o ρ bx' v fr :=
 fun a w pr lam h1 h2 h3=>hq a w pr lam h1 h2 fun i B hi=>h3 i B (hb i B hi)
theorem zsA.congr {o:Oper} {st st':St} {B:Box} (h:zsA P o st B) (he:∀ x ∈ o.op.operands,st'.eval x = st.eval x):zsA P o st' B:=by
 obtain ⟨v,n,h1,h2,h3,h4⟩:=h
 refine ⟨v,n,h1,h2,h3,?_⟩
 rcases h4 with ⟨x,h4,h5⟩ | h4
 ·exact .inl ⟨x,h4,by rw [he x (by rw [h4]; simp [Op.operands])]; exact h5⟩
 ·exact .inr h4
theorem zjd.stoO {o:Oper} {st:St} {k:Nat} {C:Box} (h:zjd P o st k C):stoO o = true:=by
 obtain ⟨t,d,y,n,B,off,h1,_⟩:=h
 simp [Go.Eng.stoO,h1]
theorem zjd.newB {o:Oper} {st:St} {k:Nat} {C:Box} (h:zjd P o st k C):newB o = false:=by
 obtain ⟨t,d,y,n,B,off,h1,_⟩:=h
 simp [Go.Eng.newB,h1]
theorem zjd.congr {o:Oper} {st st':St} {k:Nat} {C:Box} (h:zjd P o st k C) (he:∀ x ∈ o.op.operands,st'.eval x = st.eval x) (hb:st'.box = st.box):zjd P o st' k C:=by
 obtain ⟨t,d,y,n,B,off,h1,h2,h3,h4,h5,h6,h7,h8,h9⟩:=h
 have e1:st'.env d = st.env d:=he (.tmp d) (by rw [h1]; simp [Op.operands])
 have e2:st'.eval y = st.eval y:=he y (by rw [h1]; simp [Op.operands])
 exact ⟨t,d,y,n,B,off,h1,h2,e1.trans h3,by rw [hb]; exact h4,h5,h6,by rw [e2]; exact h7,h8,by rw [e2]; exact h9⟩
theorem Ef.can_app {o:Oper} {ops:Array Oper} {β:Nat->Option Box} {st:St} {G Gj:Ef} {dst:Option Nat} (h:∀ d,dst = some d->d ∉ o.looksAt ops) (hc:G.can P o β st)
  (hne:∀ v t e t',G = .cl v t e->Gj.c = some t'->t ≠ t') (hnn:∀ i B j C,G = .new i B->Gj = .new j C->i ≠ j) (hns:∀ i B k C,G = .new i B->Gj ≠ .sto k C) (hni:∀ k C,G ≠ .sto k C):G.can P o β (Gj.app dst st):=by
 have he:=(zbb (G:=Gj) (st:=st) h).1
 cases G with
 | put v=>obtain ⟨hn,fr,hc⟩:=hc; exact ⟨hn,fr,QV.congr hc fun x hx=>(he x hx).1⟩
 | copy x=>exact hc
 | sto k C=>exact absurd rfl (hni k C)
 | new i B =>
  obtain ⟨h1,h2,h3⟩:=hc
  refine ⟨h1,?_,h3.congr fun x hx=>(he x hx).1⟩
  cases Gj with
  | new j C=>show upd st.box j (some C) i = none; rw [qT _ _ _ _ (hnn i B j C rfl rfl)]; exact h2
  | sto k C=>exact absurd rfl (hns i B k C rfl)
  | _=>exact h2
 | cl v t e =>
  rcases hc with ⟨h0,h1,h2,h3⟩ | ⟨ss,x,ta,tb,args,tys,h1,h2,h3,h4⟩
  ·exact .inl ⟨h0,h1,h2,QV.congr h3 fun x hx=>(he x hx).1⟩
  ·obtain ⟨m1,m2⟩:=zcS h1 h2
   have hs:=zdL h ss m1
   obtain ⟨ht,hl⟩:=ZK h4
   refine .inr ⟨ss,x,ta,tb,args,tys,h1,h2,h3,?_⟩
   rw [zcR hs,zfx hs,(he x m2).1,ht,zkV hl fun t' hq=>hne v t e t' rfl hq,<- ht]
   exact h4
theorem Ef.can_back {o:Oper} {ops:Array Oper} {st:St} {G Gj:Ef} {dst:Option Nat} (h:∀ d,dst = some d->d ∉ o.looksAt ops) (hc:G.can P o (Gj.app dst st).box (Gj.app dst st))
  (hfr:∀ i B,Gj = .new i B->st.box i = none) (hnew:∀ i B,Gj = .new i B->newB o = true) (hni:∀ k C,Gj ≠ .sto k C):G.can P o st.box st:=by
 have he:=(zbb (G:=Gj) (st:=st) h).1
 have hbk:newB o = false->(Gj.app dst st).box = st.box:=by
  intro hn
  show Gj.bx st.box = st.box
  cases Gj with
  | new i B=>rw [hnew i B rfl] at hn; cases hn
  | sto k C=>exact absurd rfl (hni k C)
  | _=>rfl
 cases G with
 | put v =>
  obtain ⟨⟨hn,hs⟩,fr,hc⟩:=hc
  rw [hbk hn] at hc
  exact ⟨⟨hn,hs⟩,fr,QV.congr hc fun x hx=>((he x hx).1).symm⟩
 | copy x=>exact hc
 | sto k C=>exact hc.congr (fun x hx=>((he x hx).1).symm) (hbk hc.newB).symm
 | new i B =>
  obtain ⟨h1,h2,h3⟩:=hc
  refine ⟨h1,?_,h3.congr fun x hx=>((he x hx).1).symm⟩
  cases Gj with
  | new j C =>
   have h2':upd st.box j (some C) i = none:=h2
   by_cases e:i = j
   ·subst e; simp at h2'
   ·rw [qT _ _ _ _ e] at h2'; exact h2'
  | sto k C=>exact absurd rfl (hni k C)
  | _=>exact h2
 | cl v t e =>
  have hn:newB o = false:=by
   rcases hc with ⟨h0,_⟩ | ⟨ss,x,ta,tb,args,tys,h1,_⟩
   ·unfold Y2 at h0
    unfold newB
    split at h0 <;> simp_all
   ·simp [newB,h1]
  rcases hc with ⟨h0,h1,h2,h3⟩ | ⟨ss,x,ta,tb,args,tys,h1,h2,h3,h4⟩
  ·rw [hbk hn] at h3
   exact .inl ⟨h0,h1,h2,QV.congr h3 fun x hx=>((he x hx).1).symm⟩
  ·obtain ⟨m1,m2⟩:=zcS h1 h2
   have hs:=zdL h ss m1
   obtain ⟨ht,hl⟩:=ZK h4
   refine .inr ⟨ss,x,ta,tb,args,tys,h1,h2,h3,?_⟩
   rw [zcR hs,ht,(he x m2).1] at h4
   rw [zfx hs] at ht
   rw [zkU ht]
   exact h4
theorem Ef.can.more {o:Oper} {β:Nat->Option Box} {st:St} {G:Ef} (h:G.can P o β st) (hb:∀ k B,β k = some B->st.box k = some B):G.can P o st.box st:=by
 cases G with
 | put v=>obtain ⟨h1,fr,h2⟩:=h; exact ⟨h1,fr,h2.more hb⟩
 | copy x=>exact h
 | new i B=>exact h
 | sto k C=>exact h
 | cl v t e =>
  rcases h with ⟨h0,h1,h2,h3⟩ | h
  ·exact .inl ⟨h0,h1,h2,h3.more hb⟩
  ·exact .inr h
theorem zb1.more {ops:Array Oper} {o:Oper} {β:Nat->Option Box} {st:St} {G:Ef} (h:zb1 P ops o G β st) (hb:∀ k B,β k = some B->st.box k = some B):zb1 P ops o G st.box st:=by
 rcases h with ⟨h1,h2⟩ | h
 ·exact .inl ⟨h1,h2.more hb⟩
 ·exact .inr h
def zii (ops:Array Oper) (i:Nat) (β:Nat->Option Box) (listed:Array Bool) (st:St):Prop :=
 (∀ k B,β k = some B->st.box k = some B)/\∀ (m:Nat) (om:Oper) (d:Nat),ops[m]? = some om->newB om = true->om.guard = none->om.dst = some d->i < m->listed.getD m true = true->∃ k,st.env d = .loc k 0/\β k = none
def zfS (ops:Array Oper) (j:Nat):Bool:=match ops[j]? with
 | some o=>(match o.op,o.guard with
  | .store _ (.tmp d) _,none=>(List.range ops.size).any fun m=>(match ops[m]? with
   | some om=>newB om && (match om.guard with | none=>true | some _=>false) && (match om.dst with | some d'=>Nat.beq d' d | none=>false) && ancB ops ops.size j m
   | none=>false) && (List.range ops.size).all fun i=>Nat.beq i j || (bif Nat.blt i j then ancB ops ops.size j i || Nat.blt i m else ancB ops ops.size i j)
  | _,_=>false)
 | none=>false
theorem zfT {ops:Array Oper} {j:Nat} {o:Oper} (ho:ops[j]? = some o) (h:zfS ops j = true):∃ t d y m om,o.op = .store t (.tmp d) y/\o.guard = none/\ops[m]? = some om/\newB om = true/\om.guard = none/\om.dst = some d/\ancB ops ops.size j m = true /\
  ∀ i,i < ops.size->i = j ∨ (i < j/\(ancB ops ops.size j i = true ∨ i < m)) ∨ (j < i/\ancB ops ops.size i j = true):=by
 unfold zfS at h
 rw [ho] at h
 simp only at h
 split at h
 ·rename_i t d y h1 h2
  rw [List.any_eq_true] at h
  obtain ⟨m,hm,h⟩:=h
  rw [zvL] at h
  obtain ⟨h3,h4⟩:=h
  split at h3
  ·rename_i om hom
   simp only [zvL] at h3
   obtain ⟨⟨⟨a1,a2⟩,a3⟩,a4⟩:=h3
   refine ⟨t,d,y,m,om,h1,h2,hom,a1,?_,?_,a4,fun i hi=>?_⟩
   ·split at a2
    ·assumption
    ·cases a2
   ·split at a3
    ·rename_i d' hd'
     rw [hd',zvM a3]
    ·cases a3
   ·rw [zvS] at h4
    have:=h4 i (by simpa using hi)
    rw [Bool.or_eq_true] at this
    rcases this with this | this
    ·exact .inl (zvM this)
    ·cases hb:Nat.blt i j with
     | true =>
      rw [hb] at this
      simp only [cond_true,Bool.or_eq_true] at this
      have hlt:i < j:=Nat.le_of_ble_eq_true hb
      rcases this with this | this
      ·exact .inr (.inl ⟨hlt,.inl this⟩)
      ·exact .inr (.inl ⟨hlt,.inr (Nat.le_of_ble_eq_true this)⟩)
     | false =>
      rw [hb] at this
      simp only [cond_false] at this
      have hge:¬ i < j:=fun q=>by
       have:Nat.blt i j = true:=Nat.ble_eq_true_of_le q
       rw [this] at hb; cases hb
      by_cases e:i = j
      ·exact .inl e
      ·exact .inr (.inr ⟨by omega,this⟩)
  ·cases h3
 ·cases h
def Inv (ops:Array Oper) (listed:Array Bool) (st:St):Prop :=
 ∀ (j:Nat) (oj:Oper) (d:Nat),ops[j]? = some oj->listed.getD j true = false->Y2 oj = true->oj.dst = some d->∀ s t e,st.tok s = some (t,e)->tcl t < 2->t % 1000000 ≠ d
theorem Zt (listed:Array Bool) (i:Nat):(listed.setIfInBounds i true).getD i true = true:=by
 rcases Nat.lt_or_ge i listed.size with h | h
 ·simp [h]
 ·simp [h]
theorem Inv.step {ops:Array Oper} {listed:Array Bool} {st:St} {i:Nat} {oi:Oper} {G:Ef} (hI:Inv ops listed st) (hdd:∀ (j k:Nat) (a b:Oper) (d:Nat),ops[j]? = some a->ops[k]? = some b->a.dst = some d->b.dst = some d->j = k)
  (hoi:ops[i]? = some oi) {β:Nat->Option Box} (hy:zb1 P ops oi G β st):Inv ops (listed.setIfInBounds i true) (G.app oi.dst st):=by
 intro j oj d hoj hl hno hdj s t e ht h2
 have hji:i ≠ j:=by
  rintro rfl
  rw [Zt] at hl; cases hl
 rw [getD_set_ne true hji] at hl
 by_cases hs:oi.dst = some s
 ·have ht':G.tk st = some (t,e):=by
   have:(G.app oi.dst st).tok s = G.tk st:=by
    show (if oi.dst = some s then _ else _:V × Option (Nat × TypeId)).2 = _
    rw [if_pos hs]
   rw [<- this]; exact ht
  rcases hy with ⟨_,hc⟩ | ⟨_,rfl⟩
  ·cases G with
   | put v=>cases ht'
   | new i B=>cases ht'
   | sto k C=>cases ht'
   | copy x =>
    cases x with
    | tmp s'=>exact hI j oj d hoj hl hno hdj s' t e ht' h2
    | const v=>cases ht'
    | global g=>cases ht'
    | func f=>cases ht'
   | cl v t' e' =>
    simp only [Ef.tk,zvO,Prod.mk.injEq] at ht'
    obtain ⟨rfl,rfl⟩:=ht'
    rcases hc with ⟨_,h1,_,_⟩ | ⟨ss,x,ta,tb,args,tys,h1,h2',h3,h4⟩
    ·intro hq
     rw [hq] at h1
     exact hji (hdd i j oi oj d hoi hoj h1 hdj)
    ·exact hI j oj d hoj hl hno hdj ss _ _ (ZK h4).1 h2
  ·cases ht'
 ·rw [zfx hs] at ht
  exact hI j oj d hoj hl hno hdj s t e (zkU ht) h2
theorem zpm {ops:Array Oper} {listed:Array Bool} {i j:Nat} {oi oj:Oper} {G:Ef} (hoi:ops[i]? = some oi) (hoj:ops[j]? = some oj) (hqj:¬ (yV oj = true/\pinned ops j = true)) (hnw:newB oi = true->newB oj = true) (hnsi:stoO oi = false) (hcl0:Cl ops listed) (hsj:stoO oj = true->¬ pinned ops j = true->zfS ops j = true) (hij:i ≠ j) (hir:∀ e ∈ oi.after,Region.binds .any e = true->listed.getD e.on false = true) (hjr:∀ e ∈ oj.after,Region.binds .any e = true->listed.getD e.on false = true) {β:Nat->Option Box} (hap:oi.apart ops oj = true)
  (hdd:∀ (j k:Nat) (a b:Oper) (d:Nat),ops[j]? = some a->ops[k]? = some b->a.dst = some d->b.dst = some d->j = k)
  (hli:listed.getD i true = false) (hlj:listed.getD j true = false) (hna:¬(Qu oi = true/\Qu oj = true)) {K:St->Prop} {st:St} (hI:Inv ops listed st) (hF:zii ops i β listed st) (hy:zb1 P ops oi G β st)
  (h:zaS P n' ops j K (G.app oi.dst st)):zaS P n' ops j (fun st'=>Inv ops (listed.setIfInBounds j true) st'/\zii ops i β (listed.setIfInBounds j true) st'/\zb1 P ops oi G β st'/\K (G.app oi.dst st')) st:=by
 obtain ⟨h1,h2,h3⟩:=Oper.apart_spec hap
 unfold zaS at h ⊢
 rw [hoj] at h ⊢
 simp only at h ⊢
 rcases h with ⟨Gj,hyj,hk⟩ | ⟨hh,_⟩
 rotate_left
 ·exact absurd hh hqj
 have e1:=zbb (G:=G) (st:=st) h1
 have hGs:∀ k C,G ≠ .sto k C:=by
  rintro k C rfl
  rcases hy with ⟨_,q⟩ | ⟨_,q⟩
  ·rw [q.stoO] at hnsi; cases hnsi
  ·cases q
 have hfi:∀ i B,G = .new i B->st.box i = none/\newB oi = true:=by
  rintro i B rfl
  rcases hy with ⟨_,q⟩ | ⟨_,q⟩
  ·exact ⟨q.2.1,q.1⟩
  ·cases q
 have hnn:∀ i B j C,G = .new i B->Gj = .new j C->i ≠ j:=by
  rintro i B j C rfl rfl rfl
  rcases hyj with ⟨_,q⟩ | ⟨_,q⟩
  ·have:=q.2.1
   change upd st.box i (some B) i = none at this
   simp at this
  ·cases q
 have hyj':zb1 P ops oj Gj st.box st:=by
  rcases hyj with ⟨q1,q2⟩ | ⟨q1,q2⟩
  ·exact .inl ⟨e1.2 ▸ q1,Ef.can_back h1 q2 (fun i B hg=>(hfi i B hg).1) (fun i B hg=>hnw (hfi i B hg).2) hGs⟩
  ·exact .inr ⟨e1.2 ▸ q1,q2⟩
 have e2:=zbb (G:=Gj) (st:=st) h3
 have hfj:∀ i B,Gj = .new i B->st.box i = none:=by
  rintro i B rfl
  rcases hyj' with ⟨_,q⟩ | ⟨_,q⟩
  ·exact q.2.1
  ·cases q
 have hns:∀ i B k C,G = .new i B->Gj ≠ .sto k C:=by
  rintro i B k C hg rfl
  have h1:=hnw (hfi i B hg).2
  rcases hyj' with ⟨_,q⟩ | ⟨_,q⟩
  ·rw [q.newB] at h1; cases h1
  ·cases q
 have hne:∀ vi ti ei vj tj ej,G = .cl vi ti ei->Gj = .cl vj tj ej->ti ≠ tj:=by
  rintro vi ti ei vj tj ej rfl rfl rfl
  have ci:(Ef.cl vi ti ei).can P oi β st:=by
   rcases hy with ⟨_,q⟩ | ⟨_,q⟩
   ·exact q
   ·cases q
  have cj:(Ef.cl vj ti ej).can P oj st.box st:=by
   rcases hyj' with ⟨_,q⟩ | ⟨_,q⟩
   ·exact q
   ·cases q
  rcases ci with ⟨i0,i1,i2,_⟩ | ⟨ss,x,ta,tb,args,tys,i1,i2,i3,i4⟩
  ·rcases cj with ⟨j0,j1,j2,_⟩ | ⟨ss,x,ta,tb,args,tys,j1,j2,j3,j4⟩
   ·exact h2 _ i1 j1
   ·obtain ⟨q1,q2⟩:=ZK j4
    exact hI i oi _ hoi hli i0 i1 ss ti ej q1 q2 rfl
  ·rcases cj with ⟨j0,j1,j2,_⟩ | ⟨ss',x',ta',tb',args',tys',j1,j2,j3,j4⟩
   ·obtain ⟨q1,q2⟩:=ZK i4
    exact hI j oj _ hoj hlj j0 j1 ss ti ei q1 q2 rfl
   ·exact hna ⟨by simp [Qu,i1],by simp [Qu,j1]⟩
 have hcl:∀ (A:Ef) {t':Nat},A.c = some t'->∃ v e,A = .cl v t' e:=by
  intro A t' ha
  cases A <;> simp [Ef.c] at ha
  subst ha; exact ⟨_,_,rfl⟩
 have hF':zii ops i β (listed.setIfInBounds j true) (Gj.app oj.dst st):=by
  constructor
  ·intro k B hb
   have hC:=hF.1 k B hb
   show Gj.bx st.box k = some B
   cases Gj with
   | new i' B' =>
    have:=hfj i' B' rfl
    show upd st.box i' (some B') k = some B
    rw [qT _ _ _ _ (by rintro rfl; rw [hC] at this; cases this)]
    exact hC
   | sto k' C' =>
    show upd st.box k' (some C') k = some B
    have hk':β k' = none:=by
     have q:zjd P oj st k' C':=by
      rcases hyj' with ⟨_,q⟩ | ⟨_,q⟩
      ·exact q
      ·cases q
     have hso:=q.stoO
     have hhard:yV oj = true:=by
      unfold stoO at hso
      unfold yV
      split at hso
      ·rename_i ho; rw [ho]
      ·cases hso
     obtain ⟨t,d,y,m,om,r1,r2,r3,r4,r5,r6,r7,r8⟩:=zfT hoj (hsj hso fun hp=>hqj ⟨hhard,hp⟩)
     obtain ⟨t',d',y',n,B0,off,u1,_,u3,_⟩:=q
     rw [r1] at u1
     cases u1
     have hml:listed.getD m false = true:=anc_listed hcl0 _ j r7 fun oj' ho' e he hb=>by rw [hoj] at ho'; cases ho'; exact hjr e he hb
     have hml':listed.getD m true = true:=by
      rcases Nat.lt_or_ge m listed.size with h' | h'
      ·simp [h'] at hml ⊢; exact hml
      ·simp [Array.getElem?_eq_none h'] at hml
     have him:i < m:=by
      rcases r8 i (Array.getElem?_eq_some_iff.1 hoi).1 with e | ⟨_,e | e⟩ | ⟨_,e⟩
      ·exact absurd e hij
      ·have hl:=anc_listed hcl0 _ j e fun oj' ho' e he hb=>by rw [hoj] at ho'; cases ho'; exact hjr e he hb
       rw [unlisted_of hli] at hl; cases hl
      ·exact e
      ·have hl:=anc_listed hcl0 _ i e fun oj' ho' e he hb=>by rw [hoi] at ho'; cases ho'; exact hir e he hb
       rw [unlisted_of hlj] at hl; cases hl
     obtain ⟨k0,w1,w2⟩:=hF.2 m om d r3 r4 r5 r6 him hml'
     rw [w1] at u3
     cases u3
     exact w2
    rw [qT _ _ _ _ (by rintro rfl; rw [hk'] at hb; cases hb)]
    exact hC
   | _=>exact hC
  ·intro m om d hom hn hg hd him hl
   by_cases e:j = m
   ·subst e
    rw [hoj] at hom; cases hom
    have hw:gdB (ops.toList.map (·.dst)) st oj.guard = some true:=by rw [hg]; rfl
    rcases hyj' with ⟨_,q⟩ | ⟨q,_⟩
    ·cases Gj with
     | new k B =>
      refine ⟨k,?_,?_⟩
      ·rw [hd]
       show (if some d = some d then _ else _:V × Option (Nat × TypeId)).1 = _
       rw [if_pos rfl]; rfl
      ·cases hb:β k with
       | none=>rfl
       | some B0 =>
        have hC:=hF.1 k B0 hb
        have:=q.2.1
        rw [hC] at this; cases this
     | put v =>
      have:=q.1.1
      rw [hn] at this; cases this
     | copy x=>rcases q with q | q <;> simp [newB,q] at hn
     | sto k C=>rw [q.newB] at hn; cases hn
     | cl v t e =>
      exfalso
      rcases q with ⟨h0,_⟩ | ⟨ss,x,ta,tb,args,tys,h1,_⟩
      ·unfold Y2 at h0
       unfold newB at hn
       split at h0 <;> simp_all
      ·simp [newB,h1] at hn
    ·rw [hw] at q; cases q
   ·rw [getD_set_ne true e] at hl
    obtain ⟨k,q1,q2⟩:=hF.2 m om d hom hn hg hd him hl
    refine ⟨k,?_,q2⟩
    have hne:oj.dst ≠ some d:=fun hq=>e (hdd j m oj om d hoj hom hq hd)
    rw [zcR hne]
    exact q1
 refine .inl ⟨Gj,hyj',hI.step hdd hoj hyj',hF',?_,?_⟩
 ·rcases hy with ⟨q1,q2⟩ | ⟨q1,q2⟩
  ·refine .inl ⟨e2.2 ▸ q1,Ef.can_app h3 q2 (fun v t e t' hg hc=>?_) hnn hns hGs⟩
   obtain ⟨v',e',rfl⟩:=hcl Gj hc
   exact hne _ _ _ _ _ _ hg rfl
  ·exact .inr ⟨e2.2 ▸ q1,q2⟩
 ·have hop:∀ (A:Ef) (o:Oper) (β:Nat->Option Box) (st:St),zb1 P ops o A β st->∀ x,A = .copy x->x ∈ o.op.operands:=by
   rintro A o β st hy x rfl
   rcases hy with ⟨_,q⟩ | ⟨_,q⟩
   ·rcases q with q | q <;> simp [q,Op.operands]
   ·cases q
  have hlt:∀ (A:Ef) (o:Oper) (β:Nat->Option Box) (st:St),zb1 P ops o A β st->∀ v t e,A = .cl v t e->tcl t < 2:=by
   rintro A o β st hy v t e rfl
   rcases hy with ⟨_,q⟩ | ⟨_,q⟩
   ·rcases q with ⟨_,_,q,_⟩ | ⟨ss,x,ta,tb,args,tys,i1,i2,i3,i4⟩
    ·exact q
    ·exact (ZK i4).2
   ·cases q
  have key:∀ (A B:Ef) (o:Oper) (β:Nat->Option Box) (dst:Option Nat),(∀ d,dst = some d->d ∉ o.looksAt ops)->zb1 P ops o A β st->(∀ v t e v' t' e',A = .cl v t e->B = .cl v' t' e'->t ≠ t') ->
    A.val (B.app dst st) = A.val st/\A.tk (B.app dst st) = clT B.c (A.tk st):=by
   intro A B o β dst hd hy hne
   have e:=(zbb (G:=B) (st:=st) hd).1
   cases A with
   | put v=>exact ⟨rfl,(Q2 _).symm⟩
   | new i B=>exact ⟨rfl,(Q2 _).symm⟩
   | sto k C=>exact ⟨rfl,(Q2 _).symm⟩
   | copy x=>exact e x (hop _ _ _ _ hy x rfl)
   | cl v t e' =>
    refine ⟨rfl,(zkV (hlt _ _ _ _ hy v t e' rfl) fun t' hc=>?_).symm⟩
    obtain ⟨v',e'',rfl⟩:=hcl B hc
    exact hne _ _ _ _ _ _ rfl rfl
  obtain ⟨a1,a2⟩:=key G Gj oi _ oj.dst h3 hy hne
  obtain ⟨b1,b2⟩:=key Gj G oj _ oi.dst h1 hyj' fun v t e v' t' e' q1 q2 q3=>hne _ _ _ _ _ _ q2 q1 q3.symm
  rw [<- Ef.comm (Gi:=G) (Gj:=Gj) h2 a1 b1 a2 b2 hnn hns hGs]
  exact hk
theorem zfU {ops:Array Oper} {Q:St->Prop} {i:Nat} {oi:Oper} {G:Ef} {β:Nat->Option Box} (hi:ops[i]? = some oi) (hnsi:stoO oi = false)
  (hsto:∀ (j:Nat) (oj:Oper),ops[j]? = some oj->stoO oj = true->¬ pinned ops j = true->zfS ops j = true)
  (hch:∀ (j k:Nat) (a b:Oper),ops[j]? = some a->ops[k]? = some b->Qu a = true->Qu b = true->j ≠ k->zfw ops j k)
  (hdd:∀ (j k:Nat) (a b:Oper) (d:Nat),ops[j]? = some a->ops[k]? = some b->a.dst = some d->b.dst = some d->j = k) :
  ∀ (fuel:Nat) (listed:Array Bool) (st:St),Cl ops listed ->
   (∀ (j:Nat) (oj:Oper),ops[j]? = some oj->j ≠ i->listed.getD j true = false->(∀ e ∈ oj.after,Region.binds .any e = true->e.on ≠ i)->oi.apart ops oj = true) ->
   (newB oi = true->∀ (j:Nat) (oj:Oper),ops[j]? = some oj->j ≠ i->listed.getD j true = false->newB oj = true ∨ ancB ops ops.size j i = true) ->
   i ∈ Region.ready .any ops listed->Inv ops listed st->zii ops i β listed st->zb1 P ops oi G β st ->
   zpl P n' ops Q fuel (listed.setIfInBounds i true) (G.app oi.dst st)->zpl P n' ops Q (fuel + 1) listed st:=by
 have step:∀ {K:St->Prop} {st:St} {listed:Array Bool},zii ops i β listed st->zb1 P ops oi G β st->K (G.app oi.dst st)->zaS P n' ops i K st:=by
  intro K st listed hF hy hk
  unfold zaS
  rw [hi]
  exact .inl ⟨G,hy.more hF.1,hk⟩
 intro fuel
 induction fuel with
 | zero =>
  intro listed st _ _ _ hr _ hF hy H
  refine .inl ⟨fun h=>(by rw [h] at hr; cases hr),fun j hj=>?_⟩
  by_cases hji:j = i
  ·subst hji; exact step hF hy H
  ·have:=ready_mono hj hji
   rw [H.1] at this
   cases this
 | succ fuel ih =>
  intro listed st hcl hfree hnw hr hI hF hy H
  refine .inl ⟨fun h=>(by rw [h] at hr; cases hr),fun j hj=>?_⟩
  by_cases hji:j = i
  ·subst hji; exact step hF hy H
  ·have h1:=((H.resolve_right fun ⟨k,o2,o3,o4,o5,o6,hsz,_,_,_,_,_,_,_,hrs,hpin',hun⟩=>by
    have hj':=ready_mono hj hji
    have hiun:=(mem_ready.1 hr).1
    have hik:i < k:=by
     rcases Nat.lt_or_ge i k with q | q
     ·exact q
     ·have hsi:=hun i q (Zt listed i)
      have:=(Array.getElem?_eq_some_iff.1 hi).1
      omega
    have hrd:Region.ready .any ops (listed.setIfInBounds i true) = [k,k + 2]:=by
     simp only [rsB,zvL,beq_iff_eq] at hrs
     exact hrs.1.1.1.1.1.1.1.1.1.1.1.1.1.1.1.1.1.1.1.1.1.1.1.1
    rw [hrd] at hj'
    obtain ⟨_,oj,hoj,hall⟩:=mem_ready.1 hj
    have hanc:ancB ops ops.size j i = true:=by
     rcases List.mem_cons.1 hj' with rfl | hj'
     ·exact (hpin' i hik).1
     ·rw [zvv] at hj'; subst hj'; exact (hpin' i hik).2
    have hli:=anc_listed hcl _ j hanc fun oj' ho' e he hb=>by rw [hoj] at ho'; cases ho'; exact hall e he hb
    rw [unlisted_of hiun] at hli
    cases hli).2) j (ready_mono hj hji)
   obtain ⟨hjun,oj,hoj,hall⟩:=mem_ready.1 hj
   have hiun:=(mem_ready.1 hr).1
   have hnot:∀ e ∈ oj.after,Region.binds .any e = true->e.on ≠ i:=fun e he hb heq=>by
    have h1:=hall e he hb
    have h0:=(mem_ready.1 hr).1
    rw [heq] at h1
    rcases Nat.lt_or_ge i listed.size with h' | h'
    ·simp [h'] at h0 h1; rw [h0] at h1; cases h1
    ·simp [Array.getElem?_eq_none h'] at h1
   have hqj:¬ (yV oj = true/\pinned ops j = true):=fun hq=>absurd (zcQ hcl hq.2 hr hj) (Ne.symm hji)
   have hnwj:newB oi = true->newB oj = true:=fun hn=>by
    rcases hnw hn j oj hoj hji hjun with q | q
    ·exact q
    ·have hli:=anc_listed hcl _ j q fun oj' ho' e he hb=>by rw [hoj] at ho'; cases ho'; exact hall e he hb
     rw [unlisted_of hiun] at hli
     cases hli
   have hna:¬(Qu oi = true/\Qu oj = true):=fun ⟨q1,q2⟩=>zhF hcl (hch i j oi oj hi hoj q1 q2 (Ne.symm hji)) hr hj
   have hiall:∀ e ∈ oi.after,Region.binds .any e = true->listed.getD e.on false = true:=by
    obtain ⟨_,oi',hoi',hall'⟩:=mem_ready.1 hr
    rw [hi] at hoi'; cases hoi'
    exact hall'
   have h2:=zpm hi hoj hqj hnwj hnsi hcl (hsto j oj hoj) (Ne.symm hji) hiall hall (hfree j oj hoj hji hjun hnot) hdd hiun hjun hna hI hF hy h1
   have hfree':∀ (k:Nat) (ok:Oper),ops[k]? = some ok->k ≠ i->(listed.setIfInBounds j true).getD k true = false ->
     (∀ e ∈ ok.after,Region.binds .any e = true->e.on ≠ i)->oi.apart ops ok = true:=fun k ok hk hki hun hno=>by
    refine hfree k ok hk hki ?_ hno
    by_cases hjk:j = k
    ·subst hjk; exact hjun
    ·rw [getD_set_ne true hjk] at hun; exact hun
   have hnw':newB oi = true->∀ (k:Nat) (ok:Oper),ops[k]? = some ok->k ≠ i->(listed.setIfInBounds j true).getD k true = false->newB ok = true ∨ ancB ops ops.size k i = true:=fun hn k ok hk hki hun=>by
    refine hnw hn k ok hk hki ?_
    by_cases hjk:j = k
    ·subst hjk; exact hjun
    ·rw [getD_set_ne true hjk] at hun; exact hun
   refine zmJ (fun st' h3=>ih (listed.setIfInBounds j true) st' (hcl.step hj) hfree' hnw' (ready_mono hr (Ne.symm hji)) h3.1 h3.2.1 h3.2.2.1 ?_) h2
   rw [Array.setIfInBounds_comm _ _ hji]
   exact h3.2.2.2
theorem zqx {o:Oper} {st:St} {K:St->Prop} (hd:Zr n' o = true) (hq:yV o = false) (h:zcj P true o st K):∃ G:Ef,G.can P o st.box st/\K (G.app o.dst st):=by
 have hsb:stoO o = false:=by
  unfold stoO
  unfold yV at hq
  split <;> simp_all
 have hnb:newB o = false:=by
  unfold newB
  unfold yV at hq
  split <;> simp_all
 replace h:Zq P true o st K:=by
  rcases h with h | ⟨h,_⟩
  ·exact h
  ·cases h
 unfold Zq at h
 split at h
 ·rename_i ho; simp [yV,ho] at hq
 ·rename_i ho; simp [yV,ho] at hq
 ·rename_i ho; simp [yV,ho] at hq
 ·rename_i args tys ho
  split at h
  ·rename_i ss x t u ha ht
   obtain ⟨v,tk,e,h1,h2⟩:=zmH h
   exact ⟨.cl v tk e,.inr ⟨ss,x,t,u,args,tys,ho,ha,ht,h1⟩,by rw [Ef.app_cl]; exact h2⟩
  ·exact h.elim
 ·rename_i ho; simp [yV,ho] at hq
 ·rename_i ho; simp [yV,ho] at hq
 ·rename_i f args tys ho
  unfold zfv at h
  split at h
  ·rename_i g first cap hf
   rcases h with ⟨h1,h2,res,h3,h4⟩ | ⟨h,_⟩
   ·exact ⟨.put res,⟨⟨by simp [newB,ho],hsb⟩,none,zjo ho hf h1 h2 h3⟩,by rw [Ef.app_put]; exact h4⟩
   ·cases h
  ·exact h.elim
 ·obtain ⟨v,tk,q1,q2,q3⟩:=zeC (za9 hd) h
  unfold zja at q3
  rcases q1 with ⟨hc,fr,hv,ht⟩ | ⟨hc,x,hx,rfl,rfl⟩
  ·rw [hc] at q3
   simp only [cond_false] at q3
   cases tk with
   | none=>exact ⟨.put v,⟨⟨hnb,hsb⟩,fr,hv⟩,by rw [Ef.app_put]; exact q3⟩
   | some te =>
    obtain ⟨t,e⟩:=te
    obtain ⟨r0,r1,r2⟩:=q2 rfl hc t e rfl
    have:=ht t e rfl
    subst this
    exact ⟨.cl v t e,.inl ⟨r0,r1,r2,hv⟩,by rw [Ef.app_cl]; exact q3⟩
  ·rw [hc] at q3
   exact ⟨.copy x,hx,by rw [Ef.app_copy]; exact q3⟩
theorem zqy {o:Oper} {st:St} {K:St->Prop} (hq:newB o = true) (h:zcj P true o st K):∃ G:Ef,G.can P o st.box st/\K (G.app o.dst st):=by
 replace h:Zq P true o st K:=by
  rcases h with h | ⟨h,_⟩
  ·exact h
  ·cases h
 unfold Zq at h
 split at h
 ·rename_i e x ho
  obtain ⟨h0,h1,h2,h3⟩:=h
  obtain ⟨n,hn⟩:=Option.isSome_iff_exists.1 h1
  refine ⟨.new st.nb ⟨(st.eval x).cellsL,e⟩,⟨hq,h2,st.eval x,n,hn,rfl,h0,.inl ⟨x,ho,rfl⟩⟩,?_⟩
  rw [Ef.app_new]; exact h3
 ·rename_i e ho
  split at h
  ·rename_i v hz
   obtain ⟨h0,h1,h2,h3⟩:=h
   obtain ⟨n,hn⟩:=Option.isSome_iff_exists.1 h1
   refine ⟨.new st.nb ⟨v.cellsL,e⟩,⟨hq,h2,v,n,hn,rfl,h0,.inr ⟨ho,hz⟩⟩,?_⟩
   rw [Ef.app_new]; exact h3
  ·exact h.elim
 all_goals (unfold newB at hq; split at hq <;> simp_all)
theorem zqz {o:Oper} {st:St} {K:St->Prop} {t:TypeId} {d:Nat} {y:Operand} (ho:o.op = .store t (.tmp d) y) (h:zcj P true o st K):∃ G:Ef,G.can P o st.box st/\K (G.app o.dst st):=by
 replace h:Zq P true o st K:=by
  rcases h with h | ⟨h,_⟩
  ·exact h
  ·cases h
 unfold Zq at h
 rw [ho] at h
 simp only at h
 unfold Qs at h
 split at h
 ·rename_i i off hx
  split at h
  ·rename_i B n hB hs
   obtain ⟨h0,h1,h2,h3,h4⟩:=h
   refine ⟨.sto i _,⟨t,d,y,n,B,off,ho,h3,hx,hB,h0,hs,h1,h2,rfl⟩,?_⟩
   rw [h3,Ef.app_sto]; exact h4
  ·exact h.elim
 ·exact h.elim
theorem YP {st:St} {dst:Option Nat} {v:V} {s t:Nat} {e:TypeId} (h:(st.put dst v none).tok s = some (t,e)):st.tok s = some (t,e):=by
 cases dst with
 | none=>exact h
 | some d =>
  rw [St.tok_put] at h
  unfold upd at h
  split at h
  ·cases h
  ·exact h
theorem zpn {o:Oper} {st:St} {K:St->Prop} (hq:yV o = true) (h:zcj P true o st K):zcj P true o st fun st'=>K st'/\∀ s t e,st'.tok s = some (t,e)->st.tok s = some (t,e):=by
 replace h:Zq P true o st K:=by
  rcases h with h | ⟨h,_⟩
  ·exact h
  ·cases h
 refine .inl ?_
 unfold Zq at h ⊢
 split at h
 ·obtain ⟨h0,h1,h2,h3⟩:=h
  exact ⟨h0,h1,h2,h3,fun s t e ht=>YP (st:=st.newBox _ _) ht⟩
 ·split at h
  ·obtain ⟨h0,h1,h2,h3⟩:=h
   exact ⟨h0,h1,h2,h3,fun s t e ht=>YP (st:=st.newBox _ _) ht⟩
  ·exact h.elim
 ·unfold Qs at h ⊢
  split at h
  ·split at h
   ·rename_i B n hB hs
    simp only [hB,hs]
    obtain ⟨h0,h1,h2,h3,h4⟩:=h
    exact ⟨h0,h1,h2,h3,h4,fun s t e ht=>ht⟩
   ·exact h.elim
  ·exact h.elim
 ·rename_i ho; simp [yV,ho] at hq
 ·obtain ⟨h1,h2⟩:=h
  exact ⟨h1,h2,fun s t e ht=>YP (st:=st.newBox _ _) ht⟩
 ·unfold za8 at h ⊢
  split at h
  ·rename_i i kt et hm hT
   split at h
   ·rename_i B ag ks hB hk
    simp only [hB,hk]
    obtain ⟨h0,h1,h2,h3,h4,h5⟩:=h
    exact ⟨h0,h1,h2,h3,h4,h5,fun s t e ht=>ht⟩
   ·exact h.elim
  ·exact h.elim
 ·rename_i ho; simp [yV,ho] at hq
 ·rename_i n1 n2 n3 n4 n5 n6 n7
  unfold yV at hq
  split at hq
  ·rename_i ho; exact absurd ho (n1 _ _)
  ·rename_i ho; exact absurd ho (n2 _)
  ·rename_i ho; exact absurd ho (n3 _ _ _)
  ·rename_i ho; exact absurd ho (n6 _ _ _ _)
  ·rename_i t r ho
   cases r with
   | none=>exact absurd ho (n5 _)
   | some x=>simp only [qG,ho] at h
  ·cases hq
def zqA (ops:Array Oper):Bool:=(List.range ops.size).all (fun j=>match ops[j]? with
 | some o=>!yV o || pinned ops j || zfS ops j || (newB o && (List.range ops.size).all fun k=>Nat.ble k j || ancB ops ops.size k j || (match ops[k]? with | some ok=>newB ok | none=>true))
 | none=>true) && (List.range ops.size).all fun j=>(List.range ops.size).all fun k=>match ops[j]?,ops[k]? with
  | some a,some b=>Nat.beq j k || ((match a.dst,b.dst with | some d,some d'=>!Nat.beq d d' | _,_=>true) && (!(Qu a && Qu b) || ancB ops ops.size j k || ancB ops ops.size k j))
  | _,_=>true
def lst (n k:Nat):Array Bool:=(List.range k).foldl (fun l i=>l.setIfInBounds i true) (Array.replicate n false)
theorem zfV (n k:Nat):(lst n k).setIfInBounds k true = lst n (k + 1):=by
 unfold lst
 rw [List.range_succ,List.foldl_append]
 rfl
theorem zmK (n:Nat):∀ (k i:Nat),i < k->(lst n k).getD i true = true
 | 0,i,h=>by omega
 | k + 1,i,h=>by
  rw [<- zfV]
  by_cases q:k = i
  ·subst q; exact Zt _ _
  ·rw [getD_set_ne true q]
   exact zmK n k i (by omega)
theorem zfW (n:Nat):∀ (k i:Nat),k <= i->(lst n k).getD i true = true->n <= i
 | 0,i,_,h=>by
  rcases Nat.lt_or_ge i n with q | q
  ·simp [lst,q] at h
  ·exact q
 | k + 1,i,hk,h=>by
  rw [<- zfV,getD_set_ne true (by omega)] at h
  exact zfW n k i (by omega) h
def zor (o:Oper):Bool:=match o.op with
 | .mapEntry ..=>true
 | _=>false
def zos (ops:Array Oper):Bool:=(List.range ops.size).all fun k=>match ops[k + 2]? with
 | some o=>!zor o || (rsB ops (lst ops.size k) k && (List.range k).all fun i=>ancB ops ops.size k i && ancB ops ops.size (k + 2) i)
 | none=>true
theorem zmL {ops:Array Oper} (h:zos ops = true) {k:Nat} {o:Oper} {t:TypeId} {m x:Operand} (ho:ops[k + 2]? = some o) (hm:o.op = .mapEntry t m x):rsB ops (lst ops.size k) k = true/\∀ i,i < k->ancB ops ops.size k i = true/\ancB ops ops.size (k + 2) i = true:=by
 unfold zos at h
 rw [zvS] at h
 have hlt:=(Array.getElem?_eq_some_iff.1 ho).1
 have:=h k (by rw [List.mem_range]; omega)
 rw [ho] at this
 simp only [zor,hm,Bool.not_true,Bool.false_or,zvL,zvS,List.mem_range] at this
 exact this
def zeD (ops:Array Oper):Bool:=zos ops && zqA ops
theorem zeD.ent {ops:Array Oper} (h:zeD ops = true):zos ops = true:=by
 unfold zeD at h
 rw [zvL] at h
 exact h.1
theorem zmM {ops:Array Oper} (h:zeD ops = true):(∀ (j:Nat) (oj:Oper),ops[j]? = some oj->yV oj = true->pinned ops j = true ∨ zfS ops j = true ∨ (newB oj = true/\∀ (k:Nat) (ok:Oper),ops[k]? = some ok->j < k->newB ok = true ∨ ancB ops ops.size k j = true)) /\
  (∀ (j k:Nat) (a b:Oper),ops[j]? = some a->ops[k]? = some b->Qu a = true->Qu b = true->j ≠ k->zfw ops j k) /\
  (∀ (j k:Nat) (a b:Oper) (d:Nat),ops[j]? = some a->ops[k]? = some b->a.dst = some d->b.dst = some d->j = k):=by
 unfold zeD at h
 rw [zvL] at h
 replace h:=h.2
 unfold zqA at h
 rw [zvL,zvS,zvS] at h
 have key:∀ (j k:Nat) (a b:Oper),ops[j]? = some a->ops[k]? = some b->j ≠ k->(∀ d,a.dst = some d->b.dst ≠ some d)/\(Qu a = true->Qu b = true->zfw ops j k):=by
  intro j k a b ha hb hne
  have:=h.2 j (by simpa using (Array.getElem?_eq_some_iff.1 ha).1)
  rw [zvS] at this
  have:=this k (by simpa using (Array.getElem?_eq_some_iff.1 hb).1)
  rw [ha,hb] at this
  simp only [Bool.or_eq_true,zvL] at this
  rcases this with this | ⟨t1,t2⟩
  ·exact absurd (zvM this) hne
  refine ⟨fun d q1 q2=>?_,fun q1 q2=>?_⟩
  ·rw [q1,q2] at t1
   simp at t1
  ·simp only [q1,q2,Bool.and_self,Bool.not_true,Bool.false_eq_true,false_or] at t2
   exact t2
 refine ⟨fun j oj hj hq=>?_,fun j k a b ha hb q1 q2 hne=>(key j k a b ha hb hne).2 q1 q2,fun j k a b d ha hb q1 q2=>?_⟩
 ·have:=h.1 j (by simpa using (Array.getElem?_eq_some_iff.1 hj).1)
  rw [hj] at this
  simp only [hq,Bool.not_true,Bool.false_or,Bool.or_eq_true,zvL,zvS,List.mem_range] at this
  rcases this with (this | this) | ⟨h1,h2⟩
  ·exact .inl this
  ·exact .inr (.inl this)
  ·refine .inr (.inr ⟨h1,fun k ok hk hjk=>?_⟩)
   have h3:=h2 k (Array.getElem?_eq_some_iff.1 hk).1
   rw [hk] at h3
   rcases h3 with (h3 | h3) | h3
   ·have:=Nat.le_of_ble_eq_true h3; omega
   ·exact .inr h3
   ·exact .inl h3
 ·apply Classical.byContradiction
  intro hne
  exact (key j k a b ha hb hne).1 d q1 q2
theorem Q3 {ops:Array Oper} {K:St->Prop} (hpin:zeD ops = true):∀ (l:List Oper) (k:Nat) (listed:Array Bool) (st:St),listed = lst ops.size k->(∀ j,l[j]? = ops[k + j]?)->Cl ops listed->Inv ops listed st->l.all (Zr n') = true ->
  Region.lexFrom .any ops l.length k listed = true->Y4 P true (ops.toList.map (·.dst)) l st K->zpl P n' ops K l.length listed st
 | [],_,_,_,_,_,_,_,_,hB,h=>⟨by simpa [Region.lexFrom] using hB,h⟩
 | o :: l,k,listed,st,hlst,hl,hcl,hI,hall,hB,h=>by
  have hlst':listed.setIfInBounds k true = lst ops.size (k + 1):=by rw [hlst,zfV]
  have h0:ops[k]? = some o:=by simpa using (hl 0).symm
  simp only [List.length_cons,Region.lexFrom,zvL] at hB
  obtain ⟨⟨hr,hf⟩,hB'⟩:=hB
  simp only [List.all_cons,zvL] at hall
  have hr':k ∈ Region.ready .any ops listed:=by simpa using hr
  have hl':∀ j,l[j]? = ops[k + 1 + j]?:=fun j=>by have:=hl (j + 1); simpa [Nat.add_assoc,Nat.add_comm 1 j] using this
  simp only [Y4] at h
  obtain ⟨p1,p2,p3⟩:=zmM hpin
  rcases h with h | ⟨_,o3,o4,o5,o6,rfl,hv⟩
  rotate_left
  ·have g3:ops[k + 1]? = some o3:=by simpa using (hl' 0).symm
   have g4:ops[k + 2]? = some o4:=by simpa using (hl' 1).symm
   have g5:ops[k + 3]? = some o5:=by simpa using (hl' 2).symm
   have g6:ops[k + 4]? = some o6:=by simpa using (hl' 3).symm
   have hsz:ops.size = k + 5:=by
    have h1:=(Array.getElem?_eq_some_iff.1 g6).1
    have h2:ops[k + 5]? = none:=by simpa using (hl' 4).symm
    have h3:=Array.getElem?_eq_none_iff.1 h2
    omega
   obtain ⟨t,kt,et,xT,yT,op,m,x,d2,d3,d4,d5,ag,ks,i,B,ik,n,c,y,zv,⟨_,_,⟨p4,_⟩,_⟩,_⟩:=id hv
   obtain ⟨r1,r2⟩:=zmL (zeD.ent hpin) g4 p4
   exact .inr ⟨k,o,o3,o4,o5,o6,hsz,rfl,h0,g3,g4,g5,g6,hv,by rw [hlst]; exact r1,r2,fun i hi hu=>by rw [hlst] at hu; exact zfW _ _ _ hi hu⟩
  have hsto:∀ (j:Nat) (oj:Oper),ops[j]? = some oj->stoO oj = true->¬ pinned ops j = true->zfS ops j = true:=fun j oj hj hs hp=>by
   have hh:yV oj = true:=zkW hs
   rcases p1 j oj hj hh with q | q | ⟨q,_⟩
   ·exact absurd q hp
   ·exact q
   ·rw [zkX q] at hs; cases hs
  have hun:∀ m,k < m->m < ops.size->listed.getD m true = false:=fun m hm hms=>by
   cases hl:listed.getD m true with
   | false=>rfl
   | true=>rw [hlst] at hl; have:=zfW _ _ _ (by omega) hl; omega
  have hFr:zii ops k st.box listed st:=⟨fun _ _ h=>h,fun m om d hom _ _ _ hkm hl=>(by
   rw [hun m hkm (Array.getElem?_eq_some_iff.1 hom).1] at hl; cases hl)⟩
  cases hq:yV o with
  | false =>
   have hnso:stoO o = false:=zqw hq
   have hst:∃ G:Ef,zb1 P ops o G st.box st/\Y4 P true (ops.toList.map (·.dst)) l (G.app o.dst st) K:=by
    rcases Y5.1 h with ⟨hg,h⟩ | ⟨hg,h⟩
    ·obtain ⟨G,q1,q2⟩:=zqx hall.1 hq h
     exact ⟨G,.inl ⟨hg,q1⟩,q2⟩
    ·exact ⟨.put .un,.inr ⟨hg,rfl⟩,by rw [Ef.app_put]; exact h⟩
   obtain ⟨G,hy,hK⟩:=hst
   exact zfU h0 hnso hsto p2 p3 l.length listed st hcl (Region.free_spec h0 hf) (fun hn=>(by
    rw [zqv hq] at hn; cases hn)) hr' hI hFr hy (Q3 hpin l (k + 1) _ _ hlst' hl' (hcl.step hr') (hI.step p3 h0 hy) hall.2 hB' hK)
  | true =>
   by_cases hpk:pinned ops k = true
   rotate_left
   ·rcases (p1 k o h0 hq).resolve_left hpk with hsk | ⟨hnb,hlater⟩
    ·obtain ⟨t,d,y,m,om,r1,r2,r3,r4,r5,r6,r7,r8⟩:=zfT h0 hsk
     have hg:gdB (ops.toList.map (·.dst)) st o.guard = some true:=by rw [r2]; rfl
     have hv:zcj P true o st fun st'=>Y4 P true (ops.toList.map (·.dst)) l st' K:=by
      rcases Y5.1 h with ⟨_,h⟩ | ⟨hg',_⟩
      ·exact h
      ·rw [hg] at hg'; cases hg'
     obtain ⟨G,q1,q2⟩:=zqz r1 hv
     have hy:zb1 P ops o G st.box st:=.inl ⟨hg,q1⟩
     refine .inl ⟨fun h=>(by rw [h] at hr'; cases hr'),fun j hj=>?_⟩
     have hjk:j = k:=by
      obtain ⟨ju,oj,hoj,aj⟩:=mem_ready.1 hj
      obtain ⟨ku,ok',hok',ak⟩:=mem_ready.1 hr'
      have hjk':¬ j < k:=fun q=>by
       have:(lst ops.size k).getD j true = true:=zmK ops.size k j q
       rw [<- hlst,ju] at this; cases this
      rcases r8 j (Array.getElem?_eq_some_iff.1 hoj).1 with e | ⟨e,_⟩ | ⟨_,e⟩
      ·exact e
      ·exact absurd e hjk'
      ·have hl:=anc_listed hcl _ j e fun oj' ho' e he hb=>by rw [hoj] at ho'; cases ho'; exact aj e he hb
       rw [unlisted_of ku] at hl; cases hl
     subst hjk
     unfold zaS
     rw [h0]
     exact .inl ⟨G,hy,Q3 hpin l (j + 1) _ _ hlst' hl' (hcl.step hr') (hI.step p3 h0 hy) hall.2 hB' q2⟩
    have hnso:stoO o = false:=zkX hnb
    have hst:∃ G:Ef,zb1 P ops o G st.box st/\Y4 P true (ops.toList.map (·.dst)) l (G.app o.dst st) K:=by
     rcases Y5.1 h with ⟨hg,h⟩ | ⟨hg,h⟩
     ·obtain ⟨G,q1,q2⟩:=zqy hnb h
      exact ⟨G,.inl ⟨hg,q1⟩,q2⟩
     ·exact ⟨.put .un,.inr ⟨hg,rfl⟩,by rw [Ef.app_put]; exact h⟩
    obtain ⟨G,hy,hK⟩:=hst
    refine zfU h0 hnso hsto p2 p3 l.length listed st hcl (Region.free_spec h0 hf) (fun _ j oj hoj hji hun=>?_) hr' hI hFr hy (Q3 hpin l (k + 1) _ _ hlst' hl' (hcl.step hr') (hI.step p3 h0 hy) hall.2 hB' hK)
    refine hlater j oj hoj ?_
    rcases Nat.lt_or_ge k j with q | q
    ·exact q
    ·exfalso
     have hjk:j < k:=by omega
     have:(lst ops.size k).getD j true = true:=zmK ops.size k j hjk
     rw [<- hlst,hun] at this
     cases this
   refine .inl ⟨fun h=>(by rw [h] at hr'; cases hr'),fun j hj=>?_⟩
   have hjk:=zcQ hcl hpk hj hr'
   subst hjk
   have hsub:∀ st',(∀ s t e,st'.tok s = some (t,e)->st.tok s = some (t,e))->Inv ops (listed.setIfInBounds j true) st':=by
    intro st' hs i oi d hoi hli hno hd s t e ht h2
    have hij:j ≠ i:=by
     rintro rfl
     rw [Zt] at hli; cases hli
    rw [getD_set_ne true hij] at hli
    exact hI i oi d hoi hli hno hd s t e (hs s t e ht) h2
   unfold zaS
   rw [h0]
   rcases Y5.1 h with ⟨hg,h⟩ | ⟨hg,h⟩
   ·exact .inr ⟨⟨hq,hpk⟩,hg,(ZB hall.1 (zpn hq h)).mono fun st' hk=>Q3 hpin l (j + 1) _ st' hlst' hl' (hcl.step hr') (hsub st' hk.2) hall.2 hB' hk.1⟩
   ·refine .inl ⟨.put .un,.inr ⟨hg,rfl⟩,?_⟩
    rw [Ef.app_put]
    exact Q3 hpin l (j + 1) _ _ hlst' hl' (hcl.step hr') (hsub _ fun s t e ht=>YP ht) hall.2 hB' h
end
end Go.Eng
namespace Go.Eng
open Go.RowKit
def AWp (P:Program) (n':Nat) (c:Code) (st:St) (Q:Exit->St->Prop):Prop :=
 ∀ (F:Fr) (a:Act) (w:World) (pr:Nat->Nat->Prop) (lam:Nat->Option Nat),F.nt = n'->zl P F st a w pr lam ->
  c.wp P (fun ex a' w'=>∃ st' pr' lam',Q ex st'/\zl P F st' a' w' pr' lam') a w
def ztl (K:St->Prop) (Q:Exit->St->Prop):Exit->St->Prop
 | .normal,st=>K st
 | e,st=>Q e st
def zfX (id:Nat) (Q:Exit->St->Prop):Exit->St->Prop
 | .exit id',st=>if id' = id then Q .normal st else Q (.exit id') st
 | e,st=>Q e st
def zqB (v:V) (A B:Prop):Prop:=match v with | .bool b=>zsy b A B | _=>False
def ztm (ops:Array Oper) (st:St):Prop:=∀ s t e,st.tok s = some (t,e)->tcl t < 2->∀ o ∈ ops.toList,Y2 o = true->o.dst ≠ some (t % 1000000)
def zqC (P:Program) (dr:Bool) (ops:Array Oper) (st:St) (K:St->Prop):Prop:=(dr = true->ztm ops st)/\Y4 P dr (ops.toList.map (·.dst)) ops.toList st K
def zbc (P:Program) (n':Nat) (hd:List Nat):Code->St->(Exit->St->Prop)->Prop
 | .skip,st,Q=>Q .normal st
 | .label _,st,Q=>Q .normal st
 | .region id ops draw,st,Q=>if hd.contains id = true then AWp P n' (.region id ops draw) st Q else zqC P draw ops st (Q .normal)
 | .seq a b,st,Q=>zbc P n' hd a st (ztl (fun st'=>zbc P n' hd b st' Q) Q)
 | .cond c t e,st,Q=>zqB (st.eval c) (zbc P n' hd t st Q) (zbc P n' hd e st Q)
 | .block id b,st,Q=>zbc P n' hd b st (zfX id Q)
 | .exit id,st,Q=>Q (.exit id) st
 | .ret,st,Q=>Q .ret st
 | c,st,Q=>AWp P n' c st Q
def QL (n':Nat) (hd:List Nat):Code->Bool
 | .region id ops draw=>hd.contains id || (ops.toList.all (Zr n') && (!draw || (zeD ops && Region.lexB .any ops)))
 | .seq a b=>QL n' hd a && QL n' hd b
 | .cond _ a b=>QL n' hd a && QL n' hd b
 | .block _ b=>QL n' hd b
 | _=>true
theorem zl.drew {P:Program} {F:Fr} {st:St} {a:Act} {w:World} {pr:Nat->Nat->Prop} {lam:Nat->Option Nat} (h:zl P F st a w pr lam):zl P F st a { w with drawn:=w.drawn + 1 } pr lam :=
 h.ext (Ext.drew 1)
theorem qI {P:Program} {n':Nat} {hd:List Nat} (hm:P.follows .mixedOrders = true):∀ (c:Code) (st:St) (Q:Exit->St->Prop),QL n' hd c = true->zbc P n' hd c st Q->AWp P n' c st Q
 | .skip,st,Q,_,h=>fun F a w pr lam _ hs=>wp_skip ⟨st,pr,lam,h,hs⟩
 | .label _,st,Q,_,h=>fun F a w pr lam _ hs=>wp_label ⟨st,pr,lam,h,hs⟩
 | .exit id,st,Q,_,h=>fun F a w pr lam _ hs=>wp_exit ⟨st,pr,lam,h,hs⟩
 | .ret,st,Q,_,h=>fun F a w pr lam _ hs=>wp_ret ⟨st,pr,lam,h,hs⟩
 | .seq x y,st,Q,hok,h=>by
  simp only [QL,zvL] at hok
  intro F a w pr lam hF hs
  refine wp_seq (wp_mono (qI hm x st _ hok.1 h F a w pr lam hF hs) ?_)
  rintro e a' w' ⟨st',pr',lam',q,r⟩
  cases e with
  | normal=>exact qI hm y st' Q hok.2 q F a' w' pr' lam' hF r
  | exit id=>exact ⟨st',pr',lam',q,r⟩
  | goto l=>exact ⟨st',pr',lam',q,r⟩
  | ret=>exact ⟨st',pr',lam',q,r⟩
  | panic c=>exact ⟨st',pr',lam',q,r⟩
  | outgrown=>exact ⟨st',pr',lam',q,r⟩
 | .cond c x y,st,Q,hok,h=>by
  simp only [QL,zvL] at hok
  intro F a w pr lam hF hs
  simp only [zbc,zqB] at h
  split at h
  ·rename_i b hb
   have hr:=hs.eval c
   rw [hb] at hr
   simp only [R] at hr
   exact wp_cond_split hr (fun ht=>qI hm x st Q hok.1 (h.1 ht) F a w pr lam hF hs) (fun hf=>qI hm y st Q hok.2 (h.2 hf) F a w pr lam hF hs)
  ·exact h.elim
 | .block id b,st,Q,hok,h=>by
  intro F a w pr lam hF hs
  refine wp_block (wp_mono (qI hm b st _ hok h F a w pr lam hF hs) ?_)
  rintro e a' w' ⟨st',pr',lam',q,r⟩
  cases e with
  | exit id' =>
   simp only [zfX] at q
   simp only [Exit.inBlock]
   split at q
   ·rename_i hid; rw [if_pos hid]; exact ⟨st',pr',lam',q,r⟩
   ·rename_i hid; rw [if_neg hid]; exact ⟨st',pr',lam',q,r⟩
  | normal=>exact ⟨st',pr',lam',q,r⟩
  | goto l=>exact ⟨st',pr',lam',q,r⟩
  | ret=>exact ⟨st',pr',lam',q,r⟩
  | panic c=>exact ⟨st',pr',lam',q,r⟩
  | outgrown=>exact ⟨st',pr',lam',q,r⟩
 | .region id ops draw,st,Q,hok,h=>by
  simp only [zbc] at h
  split at h
  ·exact h
  ·rename_i hnc
   simp only [QL,Bool.or_eq_true,zvL] at hok
   have hok':=hok.resolve_left hnc
   have hall:=hok'.1
   have hdr:=hok'.2
   intro F a w pr lam hF hs
   cases draw with
   | false =>
    refine wp_region ?_
    have:=zba (P:=P) (n':=n') rfl (ops:=ops) ops.toList 0 st (by simp) hall h.2 F a w pr lam hF hs (fun ex a' w'=>∃ st' pr' lam',Q ex st'/\zl P F st' a' w' pr' lam') (fun st' a' w' pr' lam' k r=>⟨st',pr',lam',k,r⟩)
    rwa [Array.length_toList,<- List.range_eq_range'] at this
   | true =>
    simp only [Bool.not_true,Bool.false_eq_true,false_or] at hdr
    obtain ⟨hq,hlex⟩:=hdr
    simp only [Region.lexB,zvL] at hlex
    refine wp_region_any hm ?_
    have hcl:Cl ops (Array.replicate ops.size false):=by
     intro j oj _ hj
     by_cases hlt:j < ops.size <;> simp [hlt] at hj
    have hI:Inv ops (Array.replicate ops.size false) st:=by
     intro j oj d hoj _ hno hd s t e ht h2 hq
     subst hq
     exact h.1 rfl s t e ht h2 oj (by simpa using Array.mem_of_getElem? hoj) hno hd
    have hst:=Q3 (P:=P) (n':=n') (ops:=ops) (K:=Q .normal) hq ops.toList 0 (Array.replicate ops.size false) st (by simp [lst]) (by simp) hcl hI hall (by simpa using hlex.2) h.2
    rw [Array.length_toList] at hst
    refine Zs (n':=n') (fun i o ho=>?_) hF (fun st' a' w' pr' lam' k r=>⟨st',pr',lam',k,r⟩) _ _ st a _ pr lam hs.drew hst
    exact List.all_eq_true.1 hall o (by simpa using Array.mem_of_getElem? ho)
 | .loop _,_,_,_,h=>h
 | .rangeFunc _ _ _ _,_,_,_,h=>h
 | .scope _,_,_,_,h=>h
 | .goto _,_,_,_,h=>h
 | .refuse _,_,_,_,h=>h
theorem zmN {P:Program} {c:Code} {Q:Exit->Act->World->Prop} (I:Nat->Act->World->Prop)
  (round:∀ k a w,I k a w->c.wp P (Exit.then (fun a' w'=>∃ k',k' < k/\I k' a' w') Q) a w):∀ (k:Nat) (a:Act) (w:World),I k a w->(Code.loop c).wp P Q a w:=by
 intro k a w h₀ b ks cs
 have key:∀ n a w,I n a w ->
   ∃ e a' w',Q e a' w'/\Arrives P (lone (b.at a (.code c :: .inLoop c :: ks)) cs w) b ks cs e a' w':=by
  intro n
  induction n using Nat.strongRecOn with
  | _ n ih =>
   intro a w hI
   obtain ⟨e,a₁,w₁,hq,harr⟩:=round n a w hI b (.inLoop c :: ks) cs
   cases e with
   | normal =>
    obtain ⟨k',hlt,hI₁⟩:=hq
    obtain ⟨e₂,a₂,w₂,hq₂,harr₂⟩:=ih k' hlt a₁ w₁ hI₁
    exact ⟨e₂,a₂,w₂,hq₂,.of_steps (Steps.trans harr (.one step_inLoop)) harr₂⟩
   | exit id=>exact ⟨_,a₁,w₁,hq,.pass (x:=.inLoop c) rfl (fun _ _=>.inl (by simp)) harr⟩
   | goto l=>exact ⟨_,a₁,w₁,hq,.pass (x:=.inLoop c) rfl (fun _ _=>.inl (by simp)) harr⟩
   | ret=>exact ⟨_,a₁,w₁,hq,.pass (x:=.inLoop c) rfl (fun _ _=>.inl (by simp)) harr⟩
   | panic ch=>exact ⟨_,a₁,w₁,hq,.pass (x:=.inLoop c) rfl (fun _ _=>.inl (by simp)) harr⟩
   | outgrown=>exact ⟨_,a₁,w₁,hq,.pass (x:=.inLoop c) rfl (fun _ _=>.inl (by simp)) harr⟩
 obtain ⟨e,a',w',hq,harr⟩:=key k a w h₀
 exact ⟨e,a',w',hq,.of_steps (.one step_loop) harr⟩
def St.init (args:List V) (ins:List Box):St :=
 { nb:=ins.length,sl:=fun s=>(args.getD s .un,some (2000000,0)),box:=fun i=>ins[i]? }
def zdM (st:St) (P:Program):ResultVar->Option V
 | .tmp t=>some (st.env t)
 | .cell a t=>match st.env a with
  | .loc i off=>(match st.box i,aggT P t with
   | some B,some true=>(match sizeT P t with | some n=>if B.ty < 1000000000/\off + n <= B.cells.length then some (.agg ((B.cells.drop off).take n)) else none | none=>none)
   | some B,some false=>if B.ty < 1000000000 then B.cells[off]? else none
   | _,_=>none)
  | _=>none
def zaq (st:St) (P:Program):List ResultVar->Option (List V)
 | []=>some []
 | r :: rs=>match zdM st P r,zaq st P rs with
  | some v,some vs=>some (v :: vs)
  | _,_=>none
def zpo (st:St) (P:Program) (rs:List ResultVar):Option V :=
 match zaq st P rs with
 | some [v]=>some v
 | some vs=>some (.tup vs)
 | none=>none
def zuG (P:Program) (rs:List ResultVar) (res:V) (outs:List Box):Exit->St->Prop
 | .ret,st | .normal,st=>zpo st P rs = some res/\(∀ i B,outs[i]? = some B->st.box i = some B)
 | _,_=>False
section
variable {P:Program} {F:Fr} {st:St} {a:Act} {w:World} {pr:Nat->Nat->Prop} {lam:Nat->Option Nat}
theorem zmO (h:zl P F st a w pr lam) {g:ResultVar->Sem Value} (g1:∀ t,g (.tmp t) = pure (a.tmps.getD t undef)) (g2:∀ p t,g (.cell p t) = do loadVar t (<- asAddr (a.tmps.getD p undef)))
  {r:ResultVar} {v:V} (hv:zdM st P r = some v):∃ x,(g r).run P w = .ok x w/\R ⟨w,pr,lam⟩ v x:=by
 cases r with
 | tmp t =>
  simp only [zdM,zvO] at hv
  subst hv
  rw [g1]
  exact ⟨_,rfl,h.env t⟩
 | cell p t =>
  rw [g2]
  simp only [zdM] at hv
  split at hv
  ·rename_i i off hp
   have hr:=h.env p
   rw [hp] at hr
   simp only [R] at hr
   obtain ⟨b,hl,e⟩:=hr
   split at hv
   ·rename_i B hB ha
    split at hv
    ·rename_i n hs
     split at hv
     ·rename_i hfit
      obtain ⟨hpl,hfit⟩:=hfit
      simp only [zvO] at hv; subst hv
      obtain ⟨b',q1,hat,_⟩:=h.box i B hB
      obtain ⟨cur,q2,q3,q4⟩:=hat.cells hpl
      obtain rfl:b = b':=by rw [show lam i = some b from hl] at q1; cases q1; rfl
      have hlen:((cur.toList.drop off).take n).length = n:=by
       have:=q3.length
       simp at this ⊢; omega
      have hrun:(loadVar t ⟨b,off,none⟩).run P w = .ok (.agg ((cur.toList.drop off).take n).toArray) w :=
       run_loadVar_agg ha (by rw [hlen]; exact hs) (fun j y hy=>by
        rw [List.getElem?_take] at hy
        split at hy
        ·rw [List.getElem?_drop] at hy
         simpa [World.cell?,q2] using hy
        ·cases hy)
      refine ⟨_,by simp only [e,asAddr,Sem.run_bind,Sem.run_pure,Result.andThen_ok]; exact hrun,?_⟩
      simp only [R]
      exact ⟨_,rfl,(q3.drop off).take n,fun y hy=>q4 y (List.mem_of_mem_drop (List.mem_of_mem_take hy))⟩
     ·cases hv
    ·cases hv
   ·rename_i B hB ha
    split at hv
    ·rename_i hpl
     obtain ⟨b',q1,hat,_⟩:=h.box i B hB
     obtain ⟨cur,q2,q3,q4⟩:=hat.cells hpl
     obtain rfl:b = b':=by rw [show lam i = some b from hl] at q1; cases q1; rfl
     obtain ⟨y,hy,hr⟩:=q3.get off v hv
     have hcell:w.cell? ⟨b,off,none⟩ = some y:=by simpa [World.cell?,q2] using hy
     exact ⟨y,by simp only [e,asAddr,Sem.run_bind,Sem.run_pure,Result.andThen_ok]; exact run_loadVar_one ha hcell,hr⟩
    ·cases hv
   ·cases hv
  ·cases hv
theorem zfY (h:zl P F st a w pr lam) {g:ResultVar->Sem Value} (g1:∀ t,g (.tmp t) = pure (a.tmps.getD t undef)) (g2:∀ p t,g (.cell p t) = do loadVar t (<- asAddr (a.tmps.getD p undef))) :
  ∀ (rs:List ResultVar) (vs:List V),zaq st P rs = some vs->∃ xs:List Value,(rs.mapM g).run P w = .ok xs w/\RL ⟨w,pr,lam⟩ vs xs
 | [],vs,hv=>by
  simp only [zaq,zvO] at hv; subst hv
  exact ⟨[],by simp,by simp [RL]⟩
 | r :: rs,vs,hv=>by
  simp only [zaq] at hv
  split at hv
  ·rename_i v vs' h1 h2
   simp only [zvO] at hv; subst hv
   obtain ⟨x,q1,q2⟩:=zmO h g1 g2 h1
   obtain ⟨xs,q3,q4⟩:=zfY h g1 g2 rs vs' h2
   refine ⟨x :: xs,?_,by simp only [RL]; exact ⟨x,xs,rfl,q2,q4⟩⟩
   simp only [List.mapM_cons,Sem.run_bind,q1,q3,Result.andThen_ok,Sem.run_pure]
  ·cases hv
theorem zkY (h:zl P F st a w pr lam) {fn:Func} {v:V} (hv:zpo st P fn.results.toList = some v):∃ x,(results fn a.tmps).run P w = .ok x w/\R ⟨w,pr,lam⟩ v x:=by
 unfold zpo at hv
 cases hr:zaq st P fn.results.toList with
 | none=>rw [hr] at hv; cases hv
 | some vs =>
  rw [hr] at hv
  have key:∀ g:ResultVar->Sem Value,(∀ t,g (.tmp t) = pure (a.tmps.getD t undef))->(∀ p t,g (.cell p t) = do loadVar t (<- asAddr (a.tmps.getD p undef))) ->
    ∃ xs:List Value,(do let vs <- fn.results.mapM g; pure (if h:vs.size = 1 then vs[0] else .tuple vs):Sem Value).run P w = .ok (if h:xs.toArray.size = 1 then xs.toArray[0] else .tuple xs.toArray) w/\RL ⟨w,pr,lam⟩ vs xs:=by
   intro g g1 g2
   obtain ⟨xs,q1,q2⟩:=zfY h g1 g2 _ vs hr
   refine ⟨xs,?_,q2⟩
   have hmm:(fn.results.mapM g).run P w = .ok xs.toArray w:=by
    rw [<- Array.toArray_toList (xs:=fn.results),List.mapM_toArray]
    simp [q1]
   simp only [Sem.run_bind,hmm,Result.andThen_ok,Sem.run_pure]
  obtain ⟨xs,q1,q2⟩:=key (fun r=>match r with | .tmp t=>pure (a.tmps.getD t undef) | .cell p t=>do loadVar t (<- asAddr (a.tmps.getD p undef))) (fun _=>rfl) (fun _ _=>rfl)
  refine ⟨_,q1,?_⟩
  match vs,xs,q2,hv with
  | [u],[x],q2,hv =>
   simp only [zvO] at hv; subst hv
   simp only [RL] at q2
   obtain ⟨y,ys,e,q2,rfl⟩:=q2
   simp only [List.cons.injEq,and_true] at e
   subst e
   simpa using q2
  | [],xs,q2,hv =>
   simp only [zvO] at hv; subst hv
   have:=q2.length
   have hx:xs = []:=List.eq_nil_of_length_eq_zero (by simpa using this.symm)
   subst hx
   simp only [R]
   exact ⟨[],by simp,by simp [RL]⟩
  | u :: u' :: us,xs,q2,hv =>
   simp only [zvO] at hv; subst hv
   have hl:=q2.length
   simp only [R]
   refine ⟨xs,?_,q2⟩
   rw [dif_neg]
   simp at hl ⊢; omega
  | [_],[],q2,_=>have:=q2.length; simp at this
  | [_],_ :: _ :: _,q2,_=>have:=q2.length; simp at this
end
theorem zje {P:Program} {f:FuncId} {fn:Func} {c:Code} {args:List V} {ins:List Box} (hf:P.funcs[f]? = some fn) (hb:fn.body = some c)
  (hsz:args.length <= fn.ntmps) {Q:Exit->St->Prop} (h:AWp P fn.ntmps c (St.init args ins) Q)
  {w:World} {pr:Nat->Nat->Prop} {lam:Nat->Option Nat} {cargs:Array Value} (hlt:HL w pr) (hargs:RL ⟨w,pr,lam⟩ args cargs.toList) (hins:zeG w pr lam ins)
  (hinj:∀ i j b,lam i = some b->lam j = some b->i = j) (hlam:∀ i,ins.length <= i->lam i = none) {Post:Ending->World->Prop}
  (fin:∀ (F:Fr) (ex:Exit) (st':St) (a':Act) (w':World) (pr':Nat->Nat->Prop) (lam':Nat->Option Nat),F.w0 = w->F.pr0 = pr->F.lam0 = lam->F.io = (fun b=>∃ i,lam i = some b)->F.hd = none->Q ex st'->zl P F st' a' w' pr' lam' ->
   (ex = .ret ∨ ex = .normal)/\∃ v,(results fn a'.tmps).run P w' = .ok v w'/\Post (.returned v) w'):Calls P f cargs w Post:=by
 have hal:=hargs.length
 simp at hal
 have hgl:∀ g vs,GL g = some vs->(∃ ty,w.heap[g]? = some (.cells vs.toArray ty (0,0)))/\¬ (∃ i,lam i = some g)/\∀ i,i < vs.length->pr g i:=fun g vs hg=>by
  obtain ⟨h1,h2⟩:=hlt.glob g vs hg
  refine ⟨h1,fun ⟨i,hi⟩=>?_,h2⟩
  have hil:i < ins.length:=by
   rcases Nat.lt_or_ge i ins.length with q | q
   ·exact q
   ·rw [hlam i q] at hi; cases hi
  obtain ⟨b,q1,_,q3⟩:=hins i _ (zvs hil)
  rw [hi] at q1; cases q1
  exact q3 0 (h2 0 (ztE g vs hg))
 have hio:∀ b,pr b 0->¬ ∃ i,lam i = some b:=fun b hp ⟨i,hi⟩=>by
  have hil:i < ins.length:=by
   rcases Nat.lt_or_ge i ins.length with q | q
   ·exact q
   ·rw [hlam i q] at hi; cases hi
  obtain ⟨b',q1,_,q3⟩:=hins i _ (zvs hil)
  rw [hi] at q1; cases q1
  exact q3 0 hp
 have htb:∀ g,TN = some g->∃ b,TBL w g b/\(¬ (∃ i,lam i = some g)/\(none:Option Nat) ≠ some g)/\(¬ (∃ i,lam i = some b)/\(none:Option Nat) ≠ some b)/\pr g 0/\pr b 0:=fun g hg=>by
  obtain ⟨b,h1,h2,h3⟩:=hlt.tab g hg
  exact ⟨b,h1,⟨hio g h2,by simp⟩,⟨hio b h3,by simp⟩,h2,h3⟩
 let F:Fr:={ nt:=fn.ntmps,lam0:=lam,w0:=w,pr0:=pr,io:=fun b=>∃ i,lam i = some b,hd:=none,tb:=htb,hd0:=(fun b o h=>by cases h),gl:=fun g vs hg=>⟨(hgl g vs hg).1,⟨(hgl g vs hg).2.1,by simp⟩,(hgl g vs hg).2.2⟩,lt0:=hlt.lt }
 have hold:∀ s t e,(St.init args ins).tok s = some (t,e)->tcl t = 2:=fun s t e hs=>by cases hs; rfl
 have gb2:∀ x,zw 2 x = none:=fun x=>by unfold zw; split <;> simp
 have henv0:∀ s,R ⟨w,pr,lam⟩ ((St.init args ins).env s) ((cargs++Array.replicate (fn.ntmps - cargs.size) undef).getD s undef):=by
  intro s
  show R _ (args.getD s .un) _
  by_cases hlt':s < args.length
  ·have:args.getD s .un = args[s]:=by simp [List.getD,zvs hlt']
   rw [this]
   obtain ⟨x,hx,hr⟩:=hargs.get s _ (zvs hlt')
   have hx':cargs[s]? = some x:=by simpa using hx
   have hsz':s < cargs.size:=by omega
   have:(cargs++Array.replicate (fn.ntmps - cargs.size) undef).getD s undef = x:=by
    rw [Array.getD_eq_getD_getElem?,Array.getElem?_append,if_pos hsz',hx']; rfl
   show R _ _ ((cargs++Array.replicate (fn.ntmps - cargs.size) undef).getD s undef)
   rw [this]
   exact hr
  ·have:args.getD s .un = .un:=by simp [List.getD,List.getElem?_eq_none (by omega:args.length <= s)]
   rw [this]
   show R _ _ ((cargs++Array.replicate (fn.ntmps - cargs.size) undef).getD s undef)
   simp only [R]
   rw [Array.getD_eq_getD_getElem?,Array.getElem?_append,if_neg (by omega),Array.getElem?_replicate]
   split <;> rfl
 have hs:zl P F (St.init args ins) { tmps:=cargs++Array.replicate (fn.ntmps - cargs.size) undef,defers:=[] } w pr lam:=by
  refine ⟨?_,rfl,fun s=>?_,(fun s t e hs g hg=>by rw [hold s t e hs,gb2] at hg; cases hg),(fun s s' t t' e e' g hs _ hg=>by rw [hold s t e hs,gb2] at hg; cases hg),fun i B hB=>?_,?_,(fun i B b s t e _ _ hs=>by rw [hold s t e hs,gb2]; simp),?_,hlt.lt,⟨rfl,rfl,rfl,DLE.refl _,zvF _,fun _ _ _ _=>rfl⟩,fun _ _ h=>h,fun _ _ h=>.inl h,fun _ _ h=>h,
   (fun s s' t e e' hs _ hc=>by rw [hold s t e hs] at hc; cases hc),fun s t e hs hc=>henv0 s,(fun s s' t e e' b o g hs=>by have:=hold s _ e hs; unfold tcl at this; omega)⟩
  ·show (cargs++Array.replicate (fn.ntmps - cargs.size) undef).size = fn.ntmps
   simp; omega
  ·exact henv0 s
  ·obtain ⟨b,q1,q2,q5⟩:=hins i B hB
   exact ⟨b,q1,q2,q5,.inr ⟨i,q1⟩⟩
  ·intro i j B B' b _ _ h1 h2; exact hinj i j b h1 h2
  ·intro i hi
   refine hlam i ?_
   have:ins[i]? = none:=hi
   simpa using this
 have hwp:=h F _ w pr lam rfl hs
 refine calls_of_wp hf hb (wp_mono hwp ?_)
 rintro ex a' w' ⟨st',pr',lam',hq,hr⟩
 obtain ⟨hex,v,h1,h2⟩:=fin F ex st' a' w' pr' lam' rfl rfl rfl rfl rfl hq hr
 rcases hex with rfl | rfl
 ·exact ⟨hr.defers,v,h1,h2⟩
 ·exact ⟨hr.defers,v,h1,h2⟩
theorem zsB {P:Program} {F:Fr} {st:St} {a:Act} {w w':World} {pr pr':Nat->Nat->Prop} {lam lam':Nat->Option Nat} (hr:zl P F st a w' pr' lam') (e1:F.w0 = w) (e2:F.pr0 = pr) (e4:F.io = (fun b=>∃ i,lam i = some b)) (e5:F.hd = none):Left w pr lam w' pr':=by
 subst e1; subst e2
 refine ⟨hr.keep.os,hr.keep.tape,hr.keep.output,hr.keep.drawn,hr.keep.size,fun k hk hn=>hr.keep.block k hk (fun hi=>?_) (by rw [e5]; simp),hr.prsub,fun b o hp=>?_⟩
 ·rw [e4] at hi
  obtain ⟨i,hi⟩:=hi
  exact hn i hi
 ·rcases hr.prnew b o hp with h1 | h1 | h1
  ·exact .inl h1
  ·exact .inr ⟨h1,hr.prlt b o hp⟩
  ·rw [e5] at h1; cases h1
theorem Fn.of_AWp {P:Program} {f:FuncId} {fn:Func} {c:Code} {args:List V} {ins outs:List Box} {res:V} (hf:P.funcs[f]? = some fn) (hb:fn.body = some c)
  (hsz:args.length <= fn.ntmps) (hnl:res.noLoc = true) (hno:∀ B ∈ outs,V.noLocL B.cells = true)
  (hio:outs.length <= ins.length)
  (h:AWp P fn.ntmps c (St.init args ins) (zuG P fn.results.toList res outs)):Fn P f args ins res outs:=by
 intro w pr lam cargs hlt hargs hins hinj hlam
 refine zje hf hb hsz h hlt hargs hins hinj hlam ?_
 intro F ex st' a' w' pr' lam' e1 e2 e3 e4 e5 hq hr
 have hq':(ex = .ret ∨ ex = .normal)/\zpo st' P fn.results.toList = some res/\(∀ i B,outs[i]? = some B->st'.box i = some B):=by
  cases ex <;> first | exact ⟨.inl rfl,hq⟩ | exact ⟨.inr rfl,hq⟩ | exact hq.elim
 obtain ⟨hex,hres,hout⟩:=hq'
 obtain ⟨x,hx,hrx⟩:=zkY hr hres
 refine ⟨hex,x,hx,x,pr',rfl,hrx.noLoc _ _ hnl,fun i B hB=>?_,zsB hr e1 e2 e4 e5⟩
 obtain ⟨b,q1,q2,q5,_⟩:=hr.box i B (hout i B hB)
 have hil:i < ins.length:=by
  have:=(List.getElem?_eq_some_iff.1 hB).1
  omega
 obtain ⟨b0,p1,_⟩:=hins i _ (zvs hil)
 have hbb:b0 = b:=by
  have:=hr.lamsub i b0 (by rw [e3]; exact p1)
  rw [q1] at this; cases this; rfl
 subst hbb
 exact ⟨b0,p1,q2.noLoc (hno B (zvu hB)),q5⟩
end Go.Eng
namespace Go.Eng
open Go.RowKit
def zmP (o:Oper):Bool:=match o.guard with
 | some _=>false
 | none=>match o.op with
  | .move _=>true
  | .binOp .add _ _ _ _=>true
  | .binOp .sub _ _ _ _=>true
  | .indexAddr _ _ _=>true
  | .slice _ _ _ _ none=>true
  | _=>false
def zjf (o:Oper):Bool:=match o.guard with
 | some _=>false
 | none=>match o.op with
  | .load _ _=>true
  | _=>false
def zmQ (ops:Array Oper) (listed:Array Bool) (i j:Nat):Bool:=match ops[i]?,ops[j]? with
 | some a,some b=>zjf a && zjf b && a.apart ops b && (Region.ready .any ops (listed.setIfInBounds i true) == [j]) && (Region.ready .any ops (listed.setIfInBounds j true) == [i])
 | _,_=>false
def zcT (ops:Array Oper) (listed:Array Bool) (i:Nat):Bool:=(match ops[i]? with | some o=>zmP o | none=>false) && Region.free .any ops listed i
def zck (ops:Array Oper):Nat->Array Bool->Option (List (Nat × Nat))
 | 0,listed=>match Region.ready .any ops listed with
  | []=>some []
  | _=>none
 | fuel + 1,listed=>match Region.ready .any ops listed with
  | []=>some []
  | i :: is=>match is with
   | []=>(match zck ops fuel (listed.setIfInBounds i true) with | some l=>some ((i,0) :: l) | none=>none)
   | k :: ks=>(match (i :: k :: ks).find? (zcT ops listed) with
    | some j=>(match zck ops fuel (listed.setIfInBounds j true) with | some l=>some ((j,1) :: l) | none=>none)
    | none=>(match ks,fuel with
     | [],fuel' + 1=>bif zmQ ops listed i k then (match zck ops fuel' ((listed.setIfInBounds i true).setIfInBounds k true) with | some l=>some ((i,k + 2) :: l) | none=>none) else none
     | _,_=>none))
def zdN (P:Program) (o:Oper) (st:St) (K:St->Prop):Prop:=match o.op with
 | .move x=>K (st.put o.dst (st.eval x) (st.tokOf x))
 | .binOp .add _ x y _=>(match st.eval x,st.eval y with
  | .int k a,.int k' b=>k = k'/\InR k (a + b)/\K (st.put o.dst (.int k (a + b)) none)
  | _,_=>False)
 | .binOp .sub _ x y _=>(match st.eval x,st.eval y with
  | .int k a,.int k' b=>k = k'/\InR k (a - b)/\K (st.put o.dst (.int k (a - b)) none)
  | _,_=>False)
 | .indexAddr t x i=>(match st.eval x,st.eval i with
  | .list rows,.int _ i=>(match yZ P t with
   | some e=>(match sizeT P e with
    | some n=>yL n rows/\(0 <= i/\i < rows.length)/\K (st.put o.dst (.elt (rows.getD i.toNat .any).cellsL 0) none)
    | none=>False)
   | none=>False)
  | _,_=>False)
 | .slice t x lo hi none=>(match st.eval x with
  | .list rows=>ZW P t st (.list rows) lo hi none o.dst fun v tk=>K (st.put o.dst v tk)
  | _=>False)
 | _=>False
theorem zfZ {P:Program} {o:Oper} {a:Act} {w:World} {pr:Nat->Nat->Prop} {lam:Nat->Option Nat} {ρ:Operand->V} (hop:∀ x,R ⟨w,pr,lam⟩ (ρ x) (a.eval x)) {t e:TypeId} {x:Operand} {lo hi:Option Operand} {rows:List V} {l h n:Nat} (ho:o.op = .slice t x lo hi none) (hx:ρ x = .list rows)
  (ht:P.underlying t = some (.slice e)) (hs:sizeT P e = some n) (hrows:yL n rows) (hl:QM ρ lo 0 = some l) (hh:QM ρ hi rows.length = some h) (hlh:l <= h) (hhl:h <= rows.length) :
  ∃ v,(∀ w',(execOp a.eval o).run P w' = .ok (.value v) w')/\R ⟨w,pr,lam⟩ (.list ((rows.take h).drop l)) v:=by
 have q1:=hop x
 rw [hx] at q1
 simp only [R] at q1
 obtain ⟨base,cap,e1,hc,hm,hb⟩:=q1
 have hb1:∀ w',(match lo.map a.eval with | some v=>Instr.sliceBound v h .sliceB | none=>Pure.pure 0).run P w' = .ok l w':=fun w'=>by
  cases lo with
  | none=>simp only [QM,zvO] at hl; subst hl; simp
  | some y =>
   obtain ⟨k,i,hy,h0,hn⟩:=Zk hl
   have q:=hop y
   rw [hy] at q; simp only [R] at q
   exact run_sliceBound q h0 hn hlh _ w'
 have hb2:∀ w',(match hi.map a.eval with | some v=>Instr.sliceBound v cap .sliceAcap | none=>Pure.pure rows.length).run P w' = .ok h w':=fun w'=>by
  cases hi with
  | none=>simp only [QM,zvO] at hh; subst hh; simp
  | some y =>
   obtain ⟨k,i,hy,h0,hn⟩:=Zk hh
   have q:=hop y
   rw [hy] at q; simp only [R] at q
   exact run_sliceBound q h0 hn (Nat.le_trans hhl hc) _ w'
 have hbs:∀ w',(Instr.sliceBounds true rows.length cap (lo.map a.eval) (hi.map a.eval) none).run P w' = .ok (l,h,cap) w':=fun w'=>by
  have hb1:=hb1 w'
  have hb2:=hb2 w'
  cases lo <;> cases hi <;> simp only [Option.map_some,Option.map_none,Sem.run_pure,Result.ok.injEq,and_true] at hb1 hb2 <;>
   simp [Instr.sliceBounds,hb1,hb2]
 refine ⟨.slice (if cap = l then base else base.map (·.add (l * n))) (h - l) (cap - l),fun w'=>?_,?_⟩
 ·have hbs:=hbs w'
  simp only [execOp,ho,e1]
  simp [Instr.sliceAt,run_underlying ht,Instr.slice,hbs,run_sizeOf hs]
 ·simp only [R]
  have hlen:((rows.take h).drop l).length = h - l:=by simp; omega
  refine ⟨_,cap - l,by rw [hlen],by rw [hlen]; omega,by omega,?_⟩
  rcases hb with ⟨rfl,rfl⟩ | ⟨b,o',k,rfl,hb⟩
  ·left
   simp at hhl; subst hhl
   simp at hlh; subst hlh
   simp
  ·right
   by_cases hcl:cap = l
   ·have:(rows.take h).drop l = []:=by
     apply List.eq_nil_of_length_eq_zero
     rw [hlen]; omega
    rw [this,if_pos hcl]
    exact ⟨b,o',k,rfl,by simp [RR]⟩
   ·rw [if_neg hcl]
    refine ⟨b,o' + l * n,k,by simp [Addr.add_none],?_⟩
    rcases rows with _ | ⟨r,rs⟩
    ·simp [RR]
    ·obtain rfl:=hb.size hrows (r:=r) (by simp)
     exact hb.slice
def zf0 (P:Program) (o o':Oper) (st:St) (K:St->Prop):Prop:=match o.op,o'.op with
 | .load t x,.load t' x'=>ZU P t st.box (st.eval x) fun v=>ZU P t' st.box (st.eval x') fun u=>K ((st.put o.dst v none).put o'.dst u none)
 | _,_=>False
def Q4 (P:Program) (ops:Array Oper):List (Nat × Nat)->St->(St->Prop)->Prop
 | [],st,K=>K st
 | (i,t) :: l,st,K=>match ops[i]? with
  | none=>False
  | some o=>match t with
   | 1=>zdN P o st fun st'=>Q4 P ops l st' K
   | k + 2=>(match ops[k]? with
    | some o'=>zf0 P o o' st fun st'=>Q4 P ops l st' K
    | none=>False)
   | 0=>zjc (ops.toList.map (·.dst)) st o.guard (zcj P false o st fun st'=>Q4 P ops l st' K) (Q4 P ops l (st.put o.dst .un none) K)
section
variable {P:Program} {n':Nat}
theorem zcU {ops:Array Oper} {o:Oper} {st:St} {K:St->Prop} (hd:Zr n' o = true) (ht:zmP o = true) (h:zdN P o st K) {F:Fr} {a:Act} {w:World} {pr:Nat->Nat->Prop} {lam:Nat->Option Nat}
  (hF:F.nt = n') (hs:zl P F st a w pr lam):∃ v st',Yields P ops o v a/\K st'/\zl P F st' (a.put o.dst v) w pr lam:=by
 have hd':=yO hd
 subst hF
 have hg:o.guard = none:=by
  unfold zmP at ht
  split at ht
  ·cases ht
  ·assumption
 have hw:Region.wanted o (yielded ops a.tmps) = true:=by unfold Region.wanted; rw [hg]
 unfold zdN at h
 split at h
 ·rename_i x ho
  have hr:∀ w,(execOp a.eval o).run P w = .ok (.value (a.eval x)) w:=fun w=>by simp [execOp,ho]
  refine ⟨a.eval x,_,.inl ⟨hw,hr⟩,h,hs.put hd' (hs.eval x) ?_⟩
  cases x with
  | tmp s =>
   simp only [St.tokOf]
   cases hq:st.tok s with
   | none=>trivial
   | some te =>
    obtain ⟨t,e⟩:=te
    exact ⟨hs.own s t e hq,fun s' t' e' g hs' h1 h2=>hs.coh s s' t t' e e' g hq hs' h2 h1,fun i B b hB hl=>hs.apart i B b s t e hB hl hq,fun s' e' hs' hc=>hs.coh2 s' s t e' e hs' hq hc,fun hc=>hs.old s t e hq hc,
     fun s' e' b o g hs' h1 h2=>hs.ptr s' s t e' e b o g hs' hq h1 h2,fun s' u e' b o g hu hs' h1 h2=>hs.ptr s s' u e e' b o g (hu ▸ hq) hs' h1 h2⟩
  | const v=>trivial
  | global g=>trivial
  | func f=>trivial
 ·rename_i xT x y yT ho
  split at h
  ·rename_i k c k' b hx hy
   obtain ⟨rfl,hin,h⟩:=h
   have h1:=hs.eval x
   have h2:=hs.eval y
   rw [hx] at h1
   rw [hy] at h2
   simp only [R] at h1 h2
   have hin':k.wrap (c + b) = c + b:=hin
   have hr:∀ w,(execOp a.eval o).run P w = .ok (.value (.int k (c + b))) w:=fun w=>by
    simp [execOp,ho,h1,h2,eqGuard,binOp,Op.intArith,Op.intCmp,hin']
   exact ⟨_,_,.inl ⟨hw,hr⟩,h,hs.put hd' (by simp [R]) trivial⟩
  ·exact h.elim
 ·rename_i xT x y yT ho
  split at h
  ·rename_i k c k' b hx hy
   obtain ⟨rfl,hin,h⟩:=h
   have h1:=hs.eval x
   have h2:=hs.eval y
   rw [hx] at h1
   rw [hy] at h2
   simp only [R] at h1 h2
   have hin':k.wrap (c - b) = c - b:=hin
   have hr:∀ w,(execOp a.eval o).run P w = .ok (.value (.int k (c - b))) w:=fun w=>by
    simp [execOp,ho,h1,h2,eqGuard,binOp,Op.intArith,Op.intCmp,hin']
   exact ⟨_,_,.inl ⟨hw,hr⟩,h,hs.put hd' (by simp [R]) trivial⟩
  ·exact h.elim
 ·rename_i t x ix ho
  split at h
  case h_2=>exact h.elim
  rename_i rows k i hx hi
  split at h
  case h_2=>exact h.elim
  rename_i e ht
  split at h
  case h_2=>exact h.elim
  rename_i n hn
  obtain ⟨hrows,⟨h0,h1⟩,h⟩:=h
  have q1:=hs.eval x
  have q2:=hs.eval ix
  rw [hx] at q1
  rw [hi] at q2
  simp only [R] at q1 q2
  obtain ⟨base,cap,e1,hc,hm,hb⟩:=q1
  have hlt:i.toNat < rows.length:=by omega
  obtain ⟨r,hr⟩:∃ r,rows[i.toNat]? = some r:=⟨_,zvs hlt⟩
  rcases hb with ⟨hb,_⟩ | ⟨b,o',k',rfl,hb⟩
  ·subst hb; simp at hlt
  ·have hmem:r ∈ rows:=zvu hr
   obtain rfl:=hb.size hrows hmem
   obtain ⟨y,p1,p2,p3⟩:=hb.get _ r hr
   have hcond:0 <= i/\i < (rows.length:Int):=⟨h0,h1⟩
   have hrun:∀ w,(execOp a.eval o).run P w = .ok (.value (.pointer (some ⟨b,o' + i.toNat * k',none⟩))) w:=fun w=>by
    simp only [execOp,ho,e1,q2]
    simp [Instr.indexAt,asIntOf,run_underlying (z7 ht),hcond,run_sizeOf hn,Addr.add_none]
   refine ⟨_,_,.inl ⟨hw,hrun⟩,h,hs.put hd' ?_ trivial⟩
   have hget:rows.getD i.toNat .any = r:=by rw [List.getD_eq_getElem?_getD,hr]; rfl
   rw [hget]
   simp only [R]
   exact ⟨b,o' + i.toNat * k',rfl,zf6 (k:=k') p1 (hrows r hmem) p3⟩
 ·rename_i t x lo hi ho
  split at h
  case h_2=>exact h.elim
  rename_i rows hx
  simp only [ZW] at h
  split at h
  case h_2=>exact h.elim
  rename_i e hT
  split at h
  case h_2=>exact h.elim
  rename_i n hsz
  obtain ⟨hr,h⟩:=h
  obtain ⟨l,hl,h⟩:=qH h
  obtain ⟨hh,hl2,h1,h2,h3⟩:=qH h
  obtain ⟨v,q1,q2⟩:=zfZ (ρ:=st.eval) (fun x=>hs.eval x) ho hx (z7 hT) hsz hr hl hl2 h1 h2
  exact ⟨v,_,.inl ⟨hw,q1⟩,h3,hs.put hd' q2 trivial⟩
 ·exact h.elim
theorem zjg {o o':Oper} {st:St} {K:St->Prop} (h:zf0 P o o' st K):∃ v u,QV P o st.eval st.box v none/\QV P o' st.eval st.box u none/\K ((st.put o.dst v none).put o'.dst u none):=by
 unfold zf0 at h
 split at h
 ·rename_i t x t' x' h1 h2
  obtain ⟨v,q1,h⟩:=zap h1 h
  obtain ⟨u,q2,h⟩:=zap h2 h
  exact ⟨v,u,q1,q2,h⟩
 ·exact h.elim
theorem ZL {ops:Array Oper} {K:St->Prop} (hall:∀ (i:Nat) (o:Oper),ops[i]? = some o->Zr n' o = true) (hns:Region.noSelect ops = true) {F:Fr} (hF:F.nt = n') {Q:Exit->Act->World->Prop} (hp:∀ c a w,¬ Q (.panic c) a w)
  (hn:∀ st' a' w' pr' lam',K st'->zl P F st' a' w' pr' lam'->Q .normal a' w'):∀ (fuel:Nat) (listed:Array Bool) (l:List (Nat × Nat)) (st:St) (a:Act) (w:World) (pr:Nat->Nat->Prop) (lam:Nat->Option Nat),
   zck ops fuel listed = some l->Q4 P ops l st K->zl P F st a w pr lam->wpAny P .any ops Q fuel listed a w
 | 0,listed,l,st,a,w,pr,lam,hl,h,hs=>by
  unfold zck at hl
  split at hl
  ·rename_i hr; cases hl; exact ⟨hr,hn st a w pr lam h hs⟩
  ·cases hl
 | fuel + 1,listed,l,st,a,w,pr,lam,hl,h,hs=>by
  unfold zck at hl
  split at hl
  ·rename_i hr; cases hl
   exact ⟨fun _=>hn st a w pr lam h hs,by rw [hr]; simp⟩
  ·rename_i i is hr
   split at hl
   ·split at hl
    ·rename_i l' hl'
     cases hl
     refine ⟨fun h0=>(by rw [hr] at h0; cases h0),fun j hj=>?_⟩
     rw [hr,zvv] at hj
     subst hj
     simp only [Q4] at h
     unfold wpOp
     split at h
     ·exact h.elim
     ·rename_i o ho
      rw [ho]
      have hd:=hall j o ho
      rcases Y5.1 h with ⟨hg,h⟩ | ⟨hg,h⟩
      ·simp only
       rw [Zj hs hg]
       simp only [if_true]
       left
       exact ZB hd h F a w pr lam hF hs _ _ fun st' a' w' pr' lam' hk hs'=>ZL hall hns hF hp hn fuel _ l' st' a' w' pr' lam' hl' hk hs'
      ·simp only
       rw [Zj hs hg]
       simp only [Bool.false_eq_true,if_false]
       exact ZL hall hns hF hp hn fuel _ l' _ _ w pr lam hl' h (hs.putUn (by rw [hF]; exact yO hd))
    ·cases hl
   ·rename_i k ks
    split at hl
    ·rename_i j hj
     split at hl
     ·rename_i l' hl'
      cases hl
      have hm:=List.mem_of_find?_eq_some hj
      have hc:=List.find?_some hj
      simp only [Q4] at h
      split at h
      ·exact h.elim
      ·rename_i o ho
       unfold zcT at hc
       rw [ho] at hc
       simp only [zvL] at hc
       obtain ⟨v,st',hy,hk,hs'⟩:=zcU (ops:=ops) (hall j o ho) hc.1 h hF hs
       refine wpAny_take ho hns hc.2 (by rw [hr]; simpa using hm) (fun c a w q=>absurd q (hp c _ w)) hy ?_
       exact ZL hall hns hF hp hn fuel _ l' st' _ w pr lam hl' hk hs'
     ·cases hl
    ·split at hl
     case h_2=>cases hl
     rename_i fuel' hfind
     cases hpq:zmQ ops listed i k with
     | false=>rw [hpq] at hl; cases hl
     | true =>
      rw [hpq] at hl
      simp only [cond_true] at hl
      split at hl
      case h_2=>cases hl
      rename_i l' hl'
      cases hl
      unfold zmQ at hpq
      split at hpq
      case h_2=>cases hpq
      rename_i oi oj hoi hoj
      simp only [zvL,beq_iff_eq] at hpq
      obtain ⟨⟨⟨⟨r1,r2⟩,hap⟩,ri⟩,rj⟩:=hpq
      have hne:i ≠ k:=by
       rintro rfl
       have:i ∈ Region.ready .any ops (listed.setIfInBounds i true):=by rw [ri]; simp
       have h0:=(mem_ready.1 this).1
       rw [Zt] at h0
       cases h0
      simp only [Q4,hoi,hoj] at h
      obtain ⟨p1,p2,p3⟩:=Oper.apart_spec hap
      have gi:oi.guard = none:=by
       unfold zjf at r1; split at r1
       ·cases r1
       ·assumption
      have gj:oj.guard = none:=by
       unfold zjf at r2; split at r2
       ·cases r2
       ·assumption
      obtain ⟨v,u,qi,qj,hk⟩:=zjg h
      have hdi:=yO (hall i oi hoi)
      have hdj:=yO (hall k oj hoj)
      have wn:∀ (o:Oper) (a:Act),o.guard = none->Region.wanted o (yielded ops a.tmps) = true:=fun o a hg=>by unfold Region.wanted; rw [hg]
      refine ⟨fun h0=>(by rw [hr] at h0; cases h0),fun j hj=>?_⟩
      rw [hr] at hj
      have hj':j = i ∨ j = k:=by simpa using hj
      rcases hj' with rfl | rfl
      ·unfold wpOp
       rw [hoi]
       simp only [wn oi a gi,if_true]
       left
       refine qz (K:=fun st'=>st' = st.put oi.dst v none) qi (tk:=none) (fun _ _ h=>by cases h) hdi rfl F a w pr lam hF hs _ _ ?_
       rintro st' a' w' pr' lam' rfl hs'
       refine ⟨fun h0=>(by rw [ri] at h0; cases h0),fun j' hj'=>?_⟩
       rw [ri,zvv] at hj'
       subst hj'
       unfold wpOp
       rw [hoj]
       simp only [wn oj a' gj,if_true]
       left
       have qj':QV P oj (st.put oi.dst v none).eval (st.put oi.dst v none).box u none:=by
        have hb:(st.put oi.dst v none).box = st.box:=by cases oi.dst <;> rfl
        rw [hb]
        exact QV.congr qj fun x hx=>((zkT (st:=st) (v:=v) (tk:=none) (ops:=ops) p1).1 x hx).1
       refine qz (K:=fun st'=>st' = (st.put oi.dst v none).put oj.dst u none) qj' (tk:=none) (fun _ _ h=>by cases h) hdj rfl F a' w' pr' lam' hF hs' _ _ ?_
       rintro st'' a'' w'' pr'' lam'' rfl hs''
       exact ZL hall hns hF hp hn fuel' _ l' _ a'' w'' pr'' lam'' hl' hk hs''
      ·unfold wpOp
       rw [hoj]
       simp only [wn oj a gj,if_true]
       left
       refine qz (K:=fun st'=>st' = st.put oj.dst u none) qj (tk:=none) (fun _ _ h=>by cases h) hdj rfl F a w pr lam hF hs _ _ ?_
       rintro st' a' w' pr' lam' rfl hs'
       refine ⟨fun h0=>(by rw [rj] at h0; cases h0),fun j' hj'=>?_⟩
       rw [rj,zvv] at hj'
       subst hj'
       unfold wpOp
       rw [hoi]
       simp only [wn oi a' gi,if_true]
       left
       have qi':QV P oi (st.put oj.dst u none).eval (st.put oj.dst u none).box v none:=by
        have hb:(st.put oj.dst u none).box = st.box:=by cases oj.dst <;> rfl
        rw [hb]
        exact QV.congr qi fun x hx=>((zkT (st:=st) (v:=u) (tk:=none) (ops:=ops) p3).1 x hx).1
       refine qz (K:=fun st'=>st' = (st.put oj.dst u none).put oi.dst v none) qi' (tk:=none) (fun _ _ h=>by cases h) hdi rfl F a' w' pr' lam' hF hs' _ _ ?_
       rintro st'' a'' w'' pr'' lam'' rfl hs''
       rw [Array.setIfInBounds_comm _ _ (Ne.symm hne)]
       refine ZL hall hns hF hp hn fuel' _ l' _ a'' w'' pr'' lam'' hl' hk ?_
       rwa [put_comm st v u none none p2]
def zqD (ops:Array Oper):Option (List (Nat × Nat)):=zck ops ops.size (Array.replicate ops.size false)
theorem AWp.sched (hm:P.follows .mixedOrders = true) {id:Nat} {ops:Array Oper} {st:St} {Q:Exit->St->Prop} {l:List (Nat × Nat)} (hall:ops.toList.all (Zr n') = true) (hns:Region.noSelect ops = true) (hl:zqD ops = some l)
  (h:Q4 P ops l st (Q .normal)):AWp P n' (.region id ops true) st Q:=by
 intro F a w pr lam hF hs
 have key:(Code.region id ops true).wp P (fun ex a' w'=>ex = .normal/\∃ st' pr' lam',Q .normal st'/\zl P F st' a' w' pr' lam') a w:=by
  refine wp_region_any hm ?_
  exact ZL (fun i o ho=>List.all_eq_true.1 hall o (by simpa using Array.mem_of_getElem? ho)) hns hF (fun c a w q=>by cases q.1) (fun st' a' w' pr' lam' k r=>⟨rfl,st',pr',lam',k,r⟩) _ _ l st a _ pr lam hl h hs.drew
 refine wp_mono key ?_
 rintro ex a' w' ⟨rfl,q⟩
 exact q
end
end Go.Eng
namespace Go.Eng
open Go.RowKit
structure zot (w:World) (pr:Nat->Nat->Prop) (lam:Nat->Option Nat) (hb:Option Nat) (w':World) (pr':Nat->Nat->Prop):Prop where
 os:w'.os = w.os
 tape:w'.tape = w.tape
 output:w'.output = w.output
 drawn:DLE w w'
 size:w.heap.size <= w'.heap.size
 block:∀ k,k < w.heap.size->(∀ i,lam i ≠ some k)->hb ≠ some k->w'.heap[k]? = w.heap[k]?
 sub:∀ b o,pr b o->hb ≠ some b->pr' b o
 new:∀ b o,pr' b o->(pr b o/\hb ≠ some b) ∨ (w.heap.size <= b/\b < w'.heap.size) ∨ hb = some b
def prM (pr:Nat->Nat->Prop) (hb:Option Nat):Nat->Nat->Prop:=fun b o=>pr b o/\hb ≠ some b
def FnM (P:Program) (f:FuncId) (args:List V) (ins:List Box) (p:Nat) (e:TypeId) (res:V) (outs:List Box):Prop :=
 ∀ (w:World) (pr:Nat->Nat->Prop) (lam:Nat->Option Nat) (cargs:Array Value),HL w pr ->
  Own P (fun g=>((∀ k vs,GL k = some vs->g ≠ k)/\TN ≠ some g)/\∀ i,lam i ≠ some g) ⟨w,pr,lam⟩ 0 e (cargs.getD p undef) ->
  RL ⟨w,pr,lam⟩ args cargs.toList ->
  (∀ j v,j ≠ p->args[j]? = some v->R ⟨w,prM pr (zw 0 (cargs.getD p undef)),lam⟩ v (cargs.getD j undef)) ->
  zeG w pr lam ins->(∀ i j b,lam i = some b->lam j = some b->i = j)->(∀ i,ins.length <= i->lam i = none) ->
  Calls P f cargs w fun en w'=>∃ v pr',en = .returned v/\R ⟨w',pr',lam⟩ res v/\zeG w' pr' lam outs /\
   zot w pr lam (zw 0 (cargs.getD p undef)) w' pr'/\Own P (fun g=>w.heap.size <= g ∨ zw 0 (cargs.getD p undef) = some g) ⟨w',pr',lam⟩ 0 e v
def Yg (tk:Nat) (x:V × Option (Nat × TypeId)):V × Option (Nat × TypeId) :=
 match x.2 with
 | some (t,e)=>if t = tk then (.any,none) else yX tk [] x
 | none=>yX tk [] x
def St.dropped (st:St) (tk:Nat):St:={ st with sl:=fun s=>Yg tk (st.sl s) }
theorem zbd (tk:Nat) (x:V × Option (Nat × TypeId)) :
  Yg tk x = (.any,none) ∨
  (Yg tk x = x/\((∃ t e,x.2 = some (t,e)/\t ≠ tk/\(tcl t = 2 ∨ (tcl t = 0/\∃ rs,x.1 = .list rs/\V.flatL rs = true))) ∨ x.1.flat = true)/\∀ e,x.2 ≠ some (tk,e)):=by
 unfold Yg
 rcases ZJ tk [] x with ⟨e,q,q2⟩ | q | q
 ·rw [q]; left; simp
 ·left
  split
  ·split
   ·rfl
   ·exact q
  ·exact q
 ·right
  obtain ⟨q1,q2,q3⟩:=q
  refine ⟨?_,q2,q3⟩
  split
  ·rename_i t e hx
   rw [if_neg]
   ·exact q1
   ·rintro rfl
    exact q3 e hx
  ·exact q1
section
variable {P:Program} {n':Nat} {F:Fr} {st:St} {a:Act} {w:World} {pr:Nat->Nat->Prop} {lam:Nat->Option Nat}
theorem zl.release (h:zl P F st a w pr lam) {ss tk:Nat} {e:TypeId} (htk:st.tok ss = some (tk,e)) (hcl:tcl tk = 0) (hbf:∀ i B,st.box i = some B->V.flatL B.cells = true) {hb:Option Nat} (hhb:zw 0 (a.tmps.getD ss undef) = hb) :
  zl P F (st.dropped tk) a w (prM pr hb) lam/\(∀ s t e',(st.dropped tk).tok s = some (t,e')->∀ g,zw (tcl t) (a.tmps.getD s undef) = some g->hb ≠ some g)/\(∀ i B b,st.box i = some B->lam i = some b->hb ≠ some b)/\(∀ b,hb = some b->F.mine b):=by
 have hmine:∀ b,hb = some b->F.mine b:=fun b hq=>(h.own ss tk e htk b (by rw [hcl,hhb]; exact hq)).1
 have htok:∀ s t e',(st.dropped tk).tok s = some (t,e')->st.tok s = some (t,e')/\t ≠ tk:=by
  intro s t e' hs
  change (Yg tk (st.sl s)).2 = some (t,e') at hs
  rcases zbd tk (st.sl s) with q | ⟨q,_,q3⟩ <;> rw [q] at hs
  ·cases hs
  ·exact ⟨hs,fun hq=>by subst hq; exact q3 e' hs⟩
 have hne:∀ s t e',st.tok s = some (t,e')->t ≠ tk->∀ g,zw (tcl t) (a.tmps.getD s undef) = some g->hb ≠ some g:=by
  intro s t e' hs ht g hg hq
  exact ht (h.coh s ss t tk e' e g hs htk hg (by rw [hcl,hhb]; exact hq))
 have hsubpr:∀ b o,F.pr0 b o->prM pr hb b o:=fun b o hp=>⟨h.prsub b o hp,fun hq=>F.mine_pr (hmine b hq) hp⟩
 refine ⟨{
  size:=h.size
  defers:=h.defers
  env:=fun s=>?_
  own:=fun s t e' hs g hg=>?_
  coh:=fun s s' t t' e1 e2 g hs hs'=>h.coh s s' t t' e1 e2 g (htok _ _ _ hs).1 (htok _ _ _ hs').1
  box:=fun i B hB=>?_
  inj:=h.inj
  apart:=fun i B b s t e' hB hl hs=>h.apart i B b s t e' hB hl (htok _ _ _ hs).1
  nolam:=h.nolam
  prlt:=fun b o hp=>h.prlt b o hp.1
  keep:=h.keep
  prsub:=hsubpr
  prnew:=fun b o hp=>h.prnew b o hp.1
  lamsub:=h.lamsub
  coh2:=fun s s' t e1 e2 hs hs'=>h.coh2 s s' t e1 e2 (htok _ _ _ hs).1 (htok _ _ _ hs').1
  old:=fun s t e' hs hc=>?_
  ptr:=fun s s' t e1 e2 b o g hs hs'=>h.ptr s s' t e1 e2 b o g (htok _ _ _ hs).1 (htok _ _ _ hs').1 },
  fun s t e' hs g hg=>hne s t e' (htok s t e' hs).1 (htok s t e' hs).2 g hg,fun i B b hB hl hq=>h.apart i B b ss tk e hB hl htk (by rw [hcl,hhb]; exact hq),hmine⟩
 ·change R _ (Yg tk (st.sl s)).1 _
  rcases zbd tk (st.sl s) with q | ⟨q,hcase,_⟩
  ·rw [q]; simp [R]
  ·rw [q]
   rcases hcase with ⟨t,e',hs,ht,h2 | ⟨h0,rs,hrs,hfl⟩⟩ | hfl
   ·have:=h.old s t e' hs h2
    exact R.mono (E:=⟨w,F.pr0,lam⟩) (E':=⟨w,prM pr hb,lam⟩) ⟨fun _ _ h=>h,hsubpr,fun _ _ _=>rfl⟩ _ _ this
   ·have hR:=h.env s
    change R _ (st.sl s).1 _ at hR
    rw [hrs] at hR ⊢
    simp only [R] at hR ⊢
    obtain ⟨base,cap2,e1,c1,c2,hbb⟩:=hR
    refine ⟨base,cap2,e1,c1,c2,?_⟩
    rcases hbb with hbb | ⟨b,o,k,e2,hbb⟩
    ·exact .inl hbb
    ·refine .inr ⟨b,o,k,e2,?_⟩
     by_cases hrs0:rs = []
     ·subst hrs0; simp [RR]
     have hpos:0 < rs.length:=List.length_pos_iff.2 hrs0
     have hgb:zw (tcl t) (a.tmps.getD s undef) = some b:=by
      rw [e1,e2,h0]
      simp only [zw]
      rw [if_pos (.inl ⟨trivial,by omega⟩)]
     have hbg:=hne s t e' hs ht b hgb
     refine RR.of_get fun i r hi=>?_
     obtain ⟨y,p1,p2,p3⟩:=hbb.get i r hi
     refine ⟨y,R.flat r y (ZI hfl r (zvu hi)) p1,p2,fun j z hz=>?_⟩
     obtain ⟨p4,p5⟩:=p3 j z hz
     exact ⟨⟨p4.1,p4.2,hbg⟩,p5⟩
   ·exact R.flat _ _ hfl (h.env s)
 ·obtain ⟨r1,n,cap,cu,sz,r2,r3,r4,r5,r6⟩:=h.own s t e' (htok s t e' hs).1 g hg
  exact ⟨r1,n,cap,cu,sz,r2,r3,r4,r5,fun o ho hp=>r6 o ho hp.1⟩
 ·obtain ⟨b,r1,r2,r5,r6⟩:=h.box i B hB
  exact ⟨b,r1,Zu.flat rfl (hbf i B hB) r2,fun o hp=>r5 o hp.1,r6⟩
 ·have hs':=htok s t e' hs
  have hhold:=h.old s t e' hs'.1 hc
  change R _ (Yg tk (st.sl s)).1 _
  change (Yg tk (st.sl s)).2 = some (t,e') at hs
  rcases zbd tk (st.sl s) with q | ⟨q,_⟩
  ·rw [q] at hs; cases hs
  ·rw [q]; exact hhold
theorem zl.calledM {w':World} {pr':Nat->Nat->Prop} {lam':Nat->Option Nat} {hb:Option Nat} (h:zl P F st a w (prM pr hb) lam) (htb:∀ s t e',st.tok s = some (t,e')->∀ g,zw (tcl t) (a.tmps.getD s undef) = some g->hb ≠ some g)
  (hbb:∀ i B b,st.box i = some B->lam i = some b->hb ≠ some b) (hmine:∀ b,hb = some b->F.mine b) (hblt:∀ b,hb = some b->b < w.heap.size) {π:List Nat} {ins outs:List Box} (hπ:π.Nodup) (hbx:Z1 st π ins)
  (hlen:outs.length = ins.length) (hno:∀ B ∈ outs,V.noLocL B.cells = true) (hlam:∀ i,lam' i = (π[i]?).bind lam) (hout:zeG w' pr' lam' outs) (hleft:zot w pr lam' hb w' pr') :
  zl P F (st.setBoxes π outs) a w' pr' lam:=by
 obtain ⟨hl1,hl2⟩:=qJ hbx
 have hblk:∀ i b,lam' i = some b->∃ j B,π[i]? = some j/\st.box j = some B/\lam j = some b:=by
  intro i b hi
  rw [hlam] at hi
  cases hp:π[i]? with
  | none=>rw [hp] at hi; cases hi
  | some j =>
   rw [hp] at hi
   have hlt:i < ins.length:=by
    have:=(List.getElem?_eq_some_iff.1 hp).1
    omega
   obtain ⟨j',q1,q2,_⟩:=hl2 i _ (zvs hlt)
   rw [hp] at q1; cases q1
   exact ⟨j,_,rfl,q2,hi⟩
 have hbox:∀ j,(st.setBoxes π outs).box j = none ↔ st.box j = none:=by
  intro j
  by_cases hj:j ∈ π
  ·obtain ⟨i,hi⟩:=List.getElem?_of_mem hj
   rw [Yv π outs st i j hπ (by omega) hi]
   have hlt:i < π.length:=(List.getElem?_eq_some_iff.1 hi).1
   obtain ⟨j',q1,q2,_⟩:=hl2 i _ (zvs (by omega:i < ins.length))
   rw [hi] at q1; cases q1
   rw [q2]
   simp; omega
  ·rw [Zm π outs st hj]
 have hsome:∀ j B,(st.setBoxes π outs).box j = some B->∃ B',st.box j = some B':=by
  intro j B hB
  cases hq:st.box j with
  | none=>rw [(hbox j).2 hq] at hB; cases hB
  | some B'=>exact ⟨B',rfl⟩
 have hle:Env.Le ⟨w,prM pr hb,lam⟩ ⟨w',pr',lam⟩:=by
  refine ⟨fun _ _ h=>h,fun b o hp=>hleft.sub b o hp.1 hp.2,fun b o hp=>?_⟩
  have hblock:=hleft.block b (h.prlt b o hp) (fun i hi=>by
   obtain ⟨j,B,_,q2,q3⟩:=hblk i b hi
   obtain ⟨b',r1,_,r3,_⟩:=h.box j B q2
   rw [q3] at r1; cases r1
   exact r3 o hp) hp.2
  show w'.cell? _ = w.cell? _
  unfold World.cell?
  rw [hblock]
 have henv:∀ s,(st.setBoxes π outs).env s = st.env s:=fun s=>by unfold St.env; rw [ZM]
 have htok:∀ s,(st.setBoxes π outs).tok s = st.tok s:=fun s=>by unfold St.tok; rw [ZM]
 refine {
  size:=h.size
  defers:=h.defers
  env:=fun s=>by rw [henv]; exact (h.env s).mono hle
  own:=fun s t e hs g hg=>?_
  coh:=fun s s' t t' e e' g hs hs'=>h.coh s s' t t' e e' g (htok s ▸ hs) (htok s' ▸ hs')
  box:=fun j B hB=>?_
  inj:=fun i j B B' b hB hB' q1 q2=>?_
  apart:=fun i B b s t e hB q1 hs=>?_
  nolam:=fun i hi=>h.nolam i ((hbox i).1 hi)
  prlt:=fun b o hp=>?_
  keep:=?_
  prsub:=fun b o hp=>hle.pr b o (h.prsub b o hp)
  prnew:=fun b o hp=>?_
  lamsub:=h.lamsub
  coh2:=fun s s' t e e' hs hs'=>h.coh2 s s' t e e' (htok s ▸ hs) (htok s' ▸ hs')
  old:=fun s t e hs hc=>?_
  ptr:=fun s s' t e e' b o g hs hs'=>h.ptr s s' t e e' b o g (htok s ▸ hs) (htok s' ▸ hs') }
 ·rw [htok] at hs
  obtain ⟨r1,n,cap,cu,sz,r2,r3,r4,r5,r6⟩:=h.own s t e hs g hg
  have hlt:g < w.heap.size:=(Array.getElem?_eq_some_iff.1 r3).1
  have hgb:=htb s t e hs g hg
  refine ⟨r1,n,cap,cu,sz,r2,?_,r4,r5,fun o ho hp=>?_⟩
  ·show w'.heap[g]? = _
   rw [hleft.block g hlt (fun i hi=>?_) hgb]
   ·exact r3
   ·obtain ⟨j,B,_,q2,q3⟩:=hblk i g hi
    exact h.apart j B g s t e q2 q3 hs hg
  ·rcases hleft.new g o hp with hp | ⟨hp,_⟩ | hp
   ·exact r6 o ho hp
   ·omega
   ·exact hgb hp
 ·by_cases hj:j ∈ π
  ·obtain ⟨i,hi⟩:=List.getElem?_of_mem hj
   rw [Yv π outs st i j hπ (by omega) hi] at hB
   obtain ⟨b,q1,q2,q3⟩:=hout i B hB
   obtain ⟨j',B',p1,p2,p3⟩:=hblk i b q1
   rw [hi] at p1; cases p1
   obtain ⟨b',r1,_,_,r4⟩:=h.box j B' p2
   rw [p3] at r1; cases r1
   exact ⟨b,p3,q2.noLoc (hno B (zvu hB)),q3,r4⟩
  ·rw [Zm π outs st hj] at hB
   obtain ⟨b,r1,r2,r3,r4⟩:=h.box j B hB
   have hgb:=hbb j B b hB r1
   refine ⟨b,r1,r2.mono hle (hleft.block b r2.lt (fun i hi=>?_) hgb),fun o hp=>?_,r4⟩
   ·obtain ⟨j',B',p1,p2,p3⟩:=hblk i b hi
    have:=h.inj j j' B B' b hB p2 r1 p3
    subst this
    exact hj (zvu p1)
   ·have h2:b < w.heap.size:=r2.lt
    rcases hleft.new b o hp with hp | ⟨hp,_⟩ | hp
    ·exact r3 o hp
    ·omega
    ·exact hgb hp
 ·obtain ⟨C,hC⟩:=hsome i B hB
  obtain ⟨C',hC'⟩:=hsome j B' hB'
  exact h.inj i j C C' b hC hC' q1 q2
 ·rw [htok] at hs
  obtain ⟨C,hC⟩:=hsome i B hB
  exact h.apart i C b s t e hC q1 hs
 ·rcases hleft.new b o hp with hp | ⟨_,hp⟩ | hp
  ·exact Nat.lt_of_lt_of_le (h.prlt b o hp) hleft.size
  ·exact hp
  ·exact Nat.lt_of_lt_of_le (hblt b hp) hleft.size
 ·refine ⟨hleft.os.trans h.keep.os,hleft.tape.trans h.keep.tape,hleft.output.trans h.keep.output,h.keep.drawn.trans hleft.drawn,Nat.le_trans h.keep.size hleft.size,fun k hk hn hh=>?_⟩
  rw [hleft.block k (Nat.lt_of_lt_of_le hk h.keep.size) (fun i hi=>?_) (fun hq=>F.mine_keep (hmine k hq) hk hh rfl)]
  ·exact h.keep.block k hk hn hh
  ·obtain ⟨j,B,_,q2,q3⟩:=hblk i k hi
   obtain ⟨b,r1,_,_,r4⟩:=h.box j B q2
   rw [q3] at r1; cases r1
   rcases r4 with r4 | r4
   ·exact Nat.lt_irrefl _ (Nat.lt_of_lt_of_le hk r4)
   ·exact hn r4
 ·rcases hleft.new b o hp with hp | ⟨hp,_⟩ | hp
  ·exact h.prnew b o hp
  ·exact .inr (.inl (Nat.le_trans h.keep.size hp))
  ·exact .inr (hmine b hp)
 ·rw [henv]
  exact (h.old s t e (htok s ▸ hs) hc).old (fun _ _ h=>h) (fun b o hp=>hle.cell b o (h.prsub b o hp))
theorem zkZ (f:Nat->Nat):∀ cs:List V,V.renL f cs = cs.map (V.ren f)
 | []=>by simp [V.renL]
 | c :: cs=>by simp [V.renL,zkZ f cs]
theorem zeE {st st':St} (hb:∀ i,st'.box i = st.box i):∀ {π:List Nat} {bs:List Box},Z1 st π bs->Z1 st' π bs
 | [],[],_=>trivial
 | [],_ :: _,h=>h.elim
 | _ :: _,[],h=>h.elim
 | i :: π,B :: bs,h=>⟨⟨(hb i).trans h.1.1,h.1.2⟩,zeE hb h.2⟩
theorem zmR {o:Oper} {K:St->Prop} {c:Operand} {args:Array Operand} {tys:Array TypeId} {f:FuncId} {p ss tk tn:Nat} {e:TypeId} {rows:List V} {cap:List V} (ho:o.op = .call { callee:=.value c,args:=args,argTypes:=tys })
  (hc:st.eval c = .fn (.func f) [] cap) (hd:∀ d,o.dst = some d->d < n') (hgo:zb3 P f = true) (hp:args.toList[p]? = some (.tmp ss)) (hss:st.env ss = .list rows) (htk:st.tok ss = some (tk,e)) (hcl:tcl tk = 0) (hbf:∀ i B,st.box i = some B->V.flatL B.cells = true)
  (htn:tcl tn = 0) {st1:St} (hw1:∀ {F:Fr} {a:Act} {w:World} {pr:Nat->Nat->Prop} {lam:Nat->Option Nat},zl P F (st.dropped tk) a w pr lam->zl P F st1 a w pr lam) (hwt:∀ s t e,st1.tok s = some (t,e)->(st.dropped tk).tok s = some (t,e)) (hwb:∀ i,st1.box i = st.box i) {π:List Nat} {args':List V} {ins outs:List Box} {res:V} (hπ:π.Nodup) (hnb:st.box st.nb = none)
  (hargs:((args.toList.map st1.eval).set p (.list rows))++cap = V.renL (fun i=>π.getD i st.nb) args') (hbx:Z1 st π ins) (hlen:outs.length = ins.length) (hno:∀ B ∈ outs,V.noLocL B.cells = true) (hres:res.noLoc = true)
  (hcapf:V.flatL cap = true) (hf:FnM P f args' ins p e res outs) (hk:K (((st1.setBoxes π outs).clear tn).put o.dst res (some (tn,e)))):Zl P n' o st K:=by
 intro F a w pr lam hF h next Q hn
 subst hF
 have h1:=h.eval c
 rw [hc] at h1
 simp only [R] at h1
 obtain ⟨xs,ys,e1,q1,q2⟩:=h1
 simp only [RL] at q1
 subst q1
 generalize hhb:zw 0 (a.tmps.getD ss undef) = hb
 obtain ⟨hr0,htb0,hbb0,hmine⟩:=h.release htk hcl hbf hhb
 have hr:=hw1 hr0
 have htb:∀ s t e',st1.tok s = some (t,e')->∀ g,zw (tcl t) (a.tmps.getD s undef) = some g->hb ≠ some g:=fun s t e' hq=>htb0 s t e' (hwt s t e' hq)
 have hbb:∀ i B b,st1.box i = some B->lam i = some b->hb ≠ some b:=fun i B b hq=>hbb0 i B b (by rw [<- hwb]; exact hq)
 have hplt:p < args.size:=by
  have:=(List.getElem?_eq_some_iff.1 hp).1
  simpa using this
 have hopp:args[p]? = some (.tmp ss):=by simpa using hp
 generalize hca:(([]:List Value).toArray++args.map a.eval++ys.toArray) = cargs
 have hcl':cargs.toList = args.toList.map a.eval++ys:=by rw [<- hca]; simp
 have hcp:cargs.getD p undef = a.tmps.getD ss undef:=by
  rw [Array.getD_eq_getD_getElem?,<- Array.getElem?_toList,hcl',List.getElem?_append_left (by simpa using hplt),List.getElem?_map,hp]
  rfl
 have hq2':RL ⟨w,prM pr hb,lam⟩ cap ys:=RL.flat cap ys hcapf q2
 have hrl:∀ (l:List Operand) ,RL ⟨w,prM pr hb,lam⟩ (l.map st1.eval) (l.map a.eval):=by
  intro l
  exact Za (ρ:=st1.eval) (E:=⟨w,prM pr hb,lam⟩) (ac:=a) l fun x _=>hr.eval x
 have hoth:∀ j v,j ≠ p->(((args.toList.map st1.eval).set p (.list rows))++cap)[j]? = some v->∃ x,cargs.toList[j]? = some x/\R ⟨w,prM pr hb,lam⟩ v x:=by
  intro j v hj hv
  rw [hcl']
  by_cases hlt:j < args.toList.length
  ·rw [List.getElem?_append_left (by simpa using hlt),List.getElem?_set_ne (Ne.symm hj)] at hv
   rw [List.getElem?_append_left (by simpa using hlt)]
   exact (hrl args.toList).get j v hv
  ·rw [List.getElem?_append_right (by simpa using Nat.le_of_not_lt hlt)] at hv
   rw [List.getElem?_append_right (by simpa using Nat.le_of_not_lt hlt)]
   simp only [List.length_set,List.length_map] at hv ⊢
   exact hq2'.get _ v hv
 have hwe:Env.Le ⟨w,prM pr hb,lam⟩ ⟨w,pr,lam⟩:=⟨fun _ _ h=>h,fun _ _ h=>h.1,fun _ _ _=>rfl⟩
 have hlenA:cargs.toList.length = (((args.toList.map st1.eval).set p (.list rows))++cap).length:=by
  rw [hcl']
  have:=q2.length
  simp [this]
 have hall:RL ⟨w,pr,lam⟩ (((args.toList.map st1.eval).set p (.list rows))++cap) cargs.toList:=by
  refine RL.of_get hlenA.symm fun j v x hv hx=>?_
  by_cases hj:j = p
  ·subst hj
   rw [List.getElem?_append_left (by simpa using hplt),List.getElem?_set_self (by simpa using hplt)] at hv
   cases hv
   have hx':cargs.getD j undef = x:=by
    rw [Array.getD_eq_getD_getElem?,<- Array.getElem?_toList,hx]; rfl
   rw [<- hx',hcp,<- hss]
   exact h.env ss
  ·obtain ⟨x',hx',hR⟩:=hoth j v hj hv
   rw [hx] at hx'; cases hx'
   exact hR.mono hwe
 obtain ⟨hl1,hl2⟩:=qJ hbx
 have hren:∀ i b,((π[i]?).bind lam) = some b ↔ lam (π.getD i st.nb) = some b:=by
  intro i b
  cases hq:π[i]? with
  | none =>
   have:π.getD i st.nb = st.nb:=by simp [List.getD,hq]
   rw [this,h.nolam _ hnb]
   simp
  | some j =>
   have:π.getD i st.nb = j:=by simp [List.getD,hq]
   rw [this]
   simp
 unfold Oper.wp
 rw [Q5 ho e1 hgo,Oper.upon_enter,hca]
 rw [hargs] at hall hoth
 refine (hf w pr (fun i=>(π[i]?).bind lam) cargs h.hl ?_ (RL.ren (fun i b hi=>(hren i b).2 hi) _ _ hall) ?_ ?_ ?_ ?_).mono ?_
 ·-- the slice is the caller's own
  rw [hcp]
  intro g hg
  obtain ⟨q1,q3⟩:=h.own ss tk e htk g (by rw [hcl]; exact hg)
  refine ⟨⟨⟨fun k vs hq=>F.mine_gl q1 hq,F.mine_tn q1⟩,fun i hi=>?_⟩,q3⟩
  cases hq:π[i]? with
  | none=>simp [hq] at hi
  | some j =>
   simp only [hq,zvP] at hi
   have hi1:i < ins.length:=by have:=(List.getElem?_eq_some_iff.1 hq).1; omega
   obtain ⟨j',a1,a2,_⟩:=hl2 i _ (zvs hi1)
   rw [hq] at a1; cases a1
   exact h.apart j _ g ss tk e a2 hi htk (by rw [hcl]; exact hg)
 ·intro j v hj hv
  rw [hcp,hhb]
  have hv':(V.renL (fun i=>π.getD i st.nb) args')[j]? = some (v.ren fun i=>π.getD i st.nb):=by
   rw [zkZ,List.getElem?_map,hv]; rfl
  obtain ⟨x,hx,hR⟩:=hoth j _ hj hv'
  have hx':cargs.getD j undef = x:=by
   rw [Array.getD_eq_getD_getElem?,<- Array.getElem?_toList,hx]; rfl
  rw [hx']
  exact R.ren (fun i b hi=>(hren i b).2 hi) _ _ hR
 ·intro i B hB
  obtain ⟨j,p1,p2,p3⟩:=hl2 i B hB
  obtain ⟨b,r1,r2,r3,_⟩:=h.box j B p2
  exact ⟨b,by simp [p1,r1],r2.noLoc p3,r3⟩
 ·intro i j b hi hj
  cases hp:π[i]? with
  | none=>simp [hp] at hi
  | some p =>
   cases hq:π[j]? with
   | none=>simp [hq] at hj
   | some q =>
    simp only [hp,zvP] at hi
    simp only [hq,zvP] at hj
    have hi1:i < ins.length:=by have:=(List.getElem?_eq_some_iff.1 hp).1; omega
    have hj1:j < ins.length:=by have:=(List.getElem?_eq_some_iff.1 hq).1; omega
    obtain ⟨p',a1,a2,_⟩:=hl2 i _ (zvs hi1)
    obtain ⟨q',b1,b2,_⟩:=hl2 j _ (zvs hj1)
    rw [hp] at a1; cases a1
    rw [hq] at b1; cases b1
    have:=h.inj p q _ _ b a2 b2 hi hj
    subst this
    exact (List.getElem?_inj (by omega) hπ).1 (hp.trans hq.symm)
 ·intro i hi
  have:π[i]? = none:=by simp; omega
  simp [this]
 ·rintro en w' ⟨v,pr',rfl,hrv,hout,hleft,hown⟩
  rw [hcp,hhb] at hleft hown
  have hblt:∀ b,hb = some b->b < w.heap.size:=fun b hq=>by
   obtain ⟨_,n,cap',cur,sz,_,h3,_⟩:=h.own ss tk e htk b (by rw [hcl,hhb]; exact hq)
   exact (Array.getElem?_eq_some_iff.1 h3).1
  have hs:=hr.calledM htb hbb hmine hblt hπ (zeE (st:=st) (st':=st1) hwb hbx) hlen hno (fun i=>rfl) hout hleft
  refine hn _ _ w' pr' lam hk ((hs.clear tn).put hd (hrv.noLoc _ _ hres) ?_)
  have htok:∀ s t e',(st1.setBoxes π outs).tok s = some (t,e')->st1.tok s = some (t,e'):=fun s t e' hq=>by
   unfold St.tok at hq ⊢; rwa [ZM] at hq
  refine ⟨?_,fun s t' e' g hs' h1 h2=>?_,fun i B b hB hl hg=>?_,fun s e' hs'=>absurd rfl (zP hs').2.1,(fun hc'=>by rw [htn] at hc'; cases hc'),(fun s e' b o g hs'=>absurd rfl (zP hs').2.2),fun s u e' b o g hu=>?_⟩
  ·rw [htn]
   intro g hg
   obtain ⟨q1,q3⟩:=hown g hg
   refine ⟨?_,q3⟩
   rcases q1 with q1 | q1
   ·exact .inl (Nat.le_trans h.keep.size q1)
   ·exact hmine g q1
  ·exfalso
   have hs'':=htok _ _ _ (zP hs').1
   rw [htn] at h2
   obtain ⟨q1,_⟩:=hown g h2
   rcases q1 with q1 | q1
   ·obtain ⟨_,n,cap',cur,sz,_,h3,_⟩:=hr.own s t' e' hs'' g h1
    have:=(Array.getElem?_eq_some_iff.1 h3).1
    have h4:g < w.heap.size:=this
    omega
   ·exact htb s t' e' hs'' g h1 q1
  ·rw [htn] at hg
   obtain ⟨q1,_⟩:=hown b hg
   have hB':∃ B',st.box i = some B':=by
    cases hq:st.box i with
    | some B'=>exact ⟨B',rfl⟩
    | none=>have:=h.nolam i hq; rw [hl] at this; cases this
   obtain ⟨B',hB'⟩:=hB'
   rcases q1 with q1 | q1
   ·obtain ⟨b',r1,r2,_⟩:=h.box i B' hB'
    rw [hl] at r1; cases r1
    have h4:b < w.heap.size:=r2.lt
    omega
   ·exact hbb0 i B' b hB' hl q1
  ·exfalso
   have:tcl tn = 0:=htn
   rw [hu] at this
   unfold tcl at this
   omega
end
end Go.Eng
namespace Go.Eng
open Go.RowKit
theorem zhG (z:Value) (n:Nat):(Builtin.zeroCells z.cells n).toList = zk (List.replicate n z):=by
 refine List.ext_getElem? fun j=>?_
 rw [YW,Array.getElem?_toList]
 unfold Builtin.zeroCells
 rw [Array.getElem?_map,Array.getElem?_range]
 split
 ·rename_i h
  simp only [Option.map_some]
  have hp:0 < z.cells.size:=by
   rcases Nat.eq_zero_or_pos z.cells.size with q | q
   ·rw [q] at h; omega
   ·exact q
  have hlt:j % z.cells.size < z.cells.size:=Nat.mod_lt _ hp
  rw [Array.getElem?_eq_getElem hlt,getElem!_pos z.cells _ hlt]
 ·rfl
theorem zmS {P:Program} {w:World} {t ty e te:TypeId} {g o n c sz:Nat} {i:TypeInfo} {z:Value} {cur:Array Value} (ht:P.underlying t = some (.slice e)) (hi:P.info? e = some i) (hz:i.zero = some z) (hzc:z.cells.size = sz) (h1:∀ v ∈ z.cells.toList,v.oneCell' = true)
  (hg:w.heap[g]? = some (.cells cur te (0,0))) (hn:0 < n) (hfit:o + n * sz <= cur.size) :
  (Builtin.clear_ #[t] ty #[.slice (some ⟨g,o,none⟩) n c]).run P w = .ok (.tuple #[]) (w.setRow g (cur.toList.take o++zk (List.replicate n z)++cur.toList.drop (o + n * sz)).toArray):=by
 have hl:(zk (List.replicate n z)).length = n * sz:=by
  rw [ye (k:=sz) (by intro y hy; rw [List.mem_replicate] at hy; rw [hy.2]; exact hzc)]; simp
 have hst:=run_storeCells_at P g o te (zk (List.replicate n z)) 0 cur w hg (by rw [hl]; simpa using hfit) (fun v hv=>by
  obtain ⟨j,hj⟩:=List.mem_iff_getElem?.1 hv
  rw [YW] at hj
  split at hj
  ·exact h1 v (by simpa using Array.mem_of_getElem? hj)
  ·cases hj)
 rw [hl] at hst
 simp only [Nat.add_zero] at hst
 obtain ⟨m,rfl⟩:∃ m,n = m + 1:=⟨n - 1,by omega⟩
 have hzr:=zhG z (m + 1)
 simp [Builtin.clear_,run_underlying ht,zeroValue,typeInfo,hi,hz,hzr,hst]
section
variable {P:Program} {n':Nat} {F:Fr} {st:St} {a:Act} {w:World} {pr:Nat->Nat->Prop} {lam:Nat->Option Nat}
theorem zcV (st:St):st.setBoxes [] [] = st:=rfl
theorem zqE {o:Oper} {K:St->Prop} {t e:TypeId} {ss tk tn sz:Nat} {y:Operand} {rows:List V} {k:IntKind} {i:Int} (ho:o.op = .slice t (.tmp ss) none (some y) none) (hs:st.env ss = .list rows) (htk:st.tok ss = some (tk,e)) (hcl:tcl tk = 0)
  (hy:st.eval y = .int k i) (ht:P.underlying t = some (.slice e)) (hsz:sizeT P e = some sz) (hr:yL sz rows) (hfr:V.flatL rows = true) (h0:0 <= i) (h1:i <= rows.length) (hbf:∀ i B,st.box i = some B->V.flatL B.cells = true) (htn:tcl tn = 0)
  {st1:St} (hw1:∀ {F:Fr} {a:Act} {w:World} {pr:Nat->Nat->Prop} {lam:Nat->Option Nat},zl P F (st.dropped tk) a w pr lam->zl P F st1 a w pr lam) (hwt:∀ s t e,st1.tok s = some (t,e)->(st.dropped tk).tok s = some (t,e)) (hwb:∀ i,st1.box i = st.box i)
  (hd:∀ d,o.dst = some d->d < n') (hk:K ((st1.clear tn).put o.dst (.list (rows.take i.toNat)) (some (tn,e)))):Zl P n' o st K:=by
 intro F a w pr lam hF h next Q hn
 subst hF
 generalize hhb:zw 0 (a.tmps.getD ss undef) = hb
 obtain ⟨hr00,htb00,hbb00,hmine⟩:=h.release htk hcl hbf hhb
 have hr0:=hw1 hr00
 have htb0:∀ s t e',st1.tok s = some (t,e')->∀ g,zw (tcl t) (a.tmps.getD s undef) = some g->hb ≠ some g:=fun s t e' hq=>htb00 s t e' (hwt s t e' hq)
 have hbb0:∀ i B b,st1.box i = some B->lam i = some b->hb ≠ some b:=fun i B b hq=>hbb00 i B b (by rw [<- hwb]; exact hq)
 have hR:=h.env ss
 rw [hs] at hR
 simp only [R] at hR
 obtain ⟨base,cap,hv,hc,hm,hb0⟩:=hR
 have q2:=h.eval y
 rw [hy] at q2
 simp only [R] at q2
 have hlen:(rows.take i.toNat).length = i.toNat:=by simp; omega
 have hrun:(execOp a.eval o).run P w = .ok (.value (.slice base i.toNat cap)) w:=by
  have e1:a.eval (.tmp ss) = .slice base rows.length cap:=hv
  have hb2:(Instr.sliceBound (a.eval y) cap .sliceAcap).run P w = .ok i.toNat w:=run_sliceBound q2 h0 rfl (by omega) _ w
  have hbs:(Instr.sliceBounds true rows.length cap none (some (a.eval y)) none).run P w = .ok (0,i.toNat,cap) w:=by
   simp [Instr.sliceBounds,hb2]
  have hbase:(if cap = 0 then base else base.map (·.add (0 * sz))) = base:=by
   rcases hb0 with ⟨_,_,rfl⟩ | ⟨b,o',k',rfl,_⟩
   ·simp
   ·simp [Addr.add_none]
  simp only [execOp,ho,e1]
  simp [Instr.sliceAt,run_underlying ht,Instr.slice,hbs,run_sizeOf hsz]
  simpa using hbase
 unfold Oper.wp
 rw [hrun,Oper.upon_value]
 have hblt:∀ b,hb = some b->b < w.heap.size:=fun b hq=>by
  obtain ⟨_,n,cap',cur,sz,_,h3,_⟩:=h.own ss tk e htk b (by rw [hcl,hhb]; exact hq)
  exact (Array.getElem?_eq_some_iff.1 h3).1
 let pr':Nat->Nat->Prop:=fun b o=>prM pr hb b o ∨ (hb = some b/\o < i.toNat * sz)
 have hleft:zot w pr (fun j=>(([]:List Nat)[j]?).bind lam) hb w pr':=⟨rfl,rfl,rfl,DLE.of_eq rfl,zvF _,fun _ _ _ _=>rfl,fun b o hp hq=>.inl ⟨hp,hq⟩,fun b o hp=>by
  rcases hp with hp | ⟨hp,_⟩
  ·exact .inl hp
  ·exact .inr (.inr hp)⟩
 have hs':=hr0.calledM htb0 hbb0 hmine hblt List.nodup_nil (show Z1 st1 [] [] from trivial) rfl (outs:=[]) (by simp) (lam':=fun j=>(([]:List Nat)[j]?).bind lam) (fun j=>rfl) (fun j B hB=>by simp at hB) hleft
 rw [zcV] at hs'
 have hgb:zw 0 (.slice base i.toNat cap) = hb ∨ zw 0 (.slice base i.toNat cap) = none:=by
  rw [<- hhb,hv]
  unfold zw
  rcases base with _ | ⟨b,o',v⟩
  ·exact .inr rfl
  ·simp only
   split <;> split <;> first | exact .inl rfl | exact .inr rfl | skip
   rename_i c1 c2
   exfalso
   apply c2
   rcases c1 with c1 | c1
   ·exact .inl c1
   ·exact absurd c1.1 (by decide)
 refine hn _ _ w pr' lam hk ((hs'.clear tn).put hd ?_ ?_)
 ·simp only [R]
  refine ⟨base,cap,by rw [hlen],by rw [hlen]; omega,hm,?_⟩
  by_cases hne:rows = []
  ·subst hne
   rcases hb0 with hb0 | ⟨b,o',k',rfl,_⟩
   ·exact .inl ⟨by simp,hb0.2⟩
   ·exact .inr ⟨b,o',k',rfl,by simp [RR]⟩
  ·obtain ⟨g,cap',cur,hv',hc',hm',hg,hN,hcu,hcs,hrr,hpr⟩:=h.own0 hs htk hcl hsz hr hne
   rw [hv] at hv'
   cases hv'
   refine .inr ⟨g,0,sz,rfl,?_⟩
   refine RR.of_get fun j r hj=>?_
   rw [List.getElem?_take] at hj
   split at hj
   ·rename_i hjl
    obtain ⟨z,p1,p2,p3⟩:=hrr.get j r hj
    refine ⟨z,R.flat r z (ZI hfr r (zvu hj)) p1,p2,fun q u hq=>?_⟩
    obtain ⟨p4,p5⟩:=p3 q u hq
    refine ⟨⟨p4.1,.inr ⟨?_,?_⟩⟩,p5⟩
    ·rw [<- hhb]; exact hg
    ·have hqs:q < sz:=by
      have:=(Array.getElem?_eq_some_iff.1 hq).1
      omega
     have:(j + 1) * sz <= i.toNat * sz:=Nat.mul_le_mul_right _ (by omega)
     rw [Nat.add_mul,Nat.one_mul] at this
     omega
   ·cases hj
 ·refine ⟨fun g hg=>?_,fun s t' e' g hs1 h1 h2=>?_,fun j B b hB hl hg=>?_,fun s e' hs1=>absurd rfl (zP hs1).2.1,(fun hc'=>by rw [htn] at hc'; cases hc'),(fun s e' b o g hs1=>absurd rfl (zP hs1).2.2),fun s u e' b o g hu=>?_⟩
  ·rw [htn] at hg
   have hg':hb = some g:=by
    rcases hgb with q | q
    ·rw [<- q]; exact hg
    ·rw [q] at hg; cases hg
   refine ⟨hmine g hg',?_⟩
   obtain ⟨_,n,cap',cur,sz',r1,r2,r3,r4,_⟩:=h.own ss tk e htk g (by rw [hcl,hhb]; exact hg')
   rw [hv] at r1
   simp only [Value.slice.injEq] at r1
   obtain ⟨rfl,_,rfl⟩:=r1
   have hss:sz' = sz:=by
    have:sizeT P e = some sz':=r3
    rw [hsz] at this; cases this; rfl
   subst hss
   refine ⟨i.toNat,cap,cur,sz',rfl,r2,r3,r4,fun o' ho' hp=>?_⟩
   rcases hp with hp | ⟨_,hp⟩
   ·exact hp.2 hg'
   ·omega
  ·exfalso
   rw [htn] at h2
   have hg':hb = some g:=by
    rcases hgb with q | q
    ·rw [<- q]; exact h2
    ·rw [q] at h2; cases h2
   exact htb0 s t' e' (zP hs1).1 g h1 hg'
  ·rw [htn] at hg
   have hg':hb = some b:=by
    rcases hgb with q | q
    ·rw [<- q]; exact hg
    ·rw [q] at hg; cases hg
   exact hbb0 j B b hB hl hg'
  ·exfalso
   have:tcl tn = 0:=htn
   rw [hu] at this
   unfold tcl at this
   omega
theorem zsC {o2 o3:Oper} {K:St->Prop} {t e:TypeId} {ss tk sz c:Nat} {y:Operand} {rows:List V} {zv:V} {k:IntKind} {i:Int} (ho:o2.op = .slice t (.tmp ss) (some y) none none) (hc2:o2.dst = some c) (hc:c < n')
  (ho3:o3.op = .call { callee:=.builtin .clear,args:=#[.tmp c],argTypes:=#[t] }) (hd3:o3.dst = none) (hs:st.env ss = .list rows) (htk:st.tok ss = some (tk,e)) (hcl:tcl tk = 0)
  (hy:st.eval y = .int k i) (ht:P.underlying t = some (.slice e)) (hsz:sizeT P e = some sz) (hz:zeroT P e = some zv) (hzs:zv.csize = some sz) (hzf:zv.flat = true) (hr:yL sz rows) (hfr:V.flatL rows = true) (h0:0 <= i) (h1:i < rows.length) (hbf:∀ i B,st.box i = some B->V.flatL B.cells = true)
  {st1:St} (hw1:∀ {F:Fr} {a:Act} {w:World} {pr:Nat->Nat->Prop} {lam:Nat->Option Nat},zl P F (st.changed tk (rows.take i.toNat++List.replicate (rows.length - i.toNat) zv)) a w pr lam->zl P F st1 a w pr lam)
  (hk:K (st1.put (some c) .any none)) (hF:F.nt = n') (h:zl P F st a w pr lam) (next:Act->World->Prop) (Q:Exit->Act->World->Prop)
  (hn:∀ st' a' w' pr' lam',K st'->zl P F st' a' w' pr' lam'->next a' w'):o2.wp P a w (fun a' w'=>o3.wp P a' w' next Q) Q:=by
 subst hF
 have hne:rows ≠ []:=fun q=>by subst q; simp at h1; omega
 obtain ⟨g,cap,cur,hvs,hcp,hm,hg,hN,hgb,hcs,hrr,hpr⟩:=h.own0 hs htk hcl hsz hr hne
 obtain ⟨ti,z,i1,i2,i3⟩:=zeroT_spec hz
 have hzR:∀ w':World,R ⟨w',pr,lam⟩ zv z:=fun w'=>by have:=Zv ⟨w',pr,lam⟩ z; rwa [i3] at this
 have hzc:z.cells.size = sz:=(hzR w).csize hzs
 have hz1:=((hzR w).cells hzs).2
 obtain ⟨n,hin⟩:∃ n:Nat,i = n:=⟨i.toNat,by omega⟩
 subst hin
 have hnt:(n:Int).toNat = n:=by omega
 rw [hnt] at hw1
 have hnlt:n < rows.length:=by omega
 have hbound:n * sz + (rows.length - n) * sz = rows.length * sz:=by rw [<- Nat.add_mul]; congr 1; omega
 have hcapb:rows.length * sz <= cap * sz:=Nat.mul_le_mul_right _ hcp
 have q2:=h.eval y
 rw [hy] at q2
 simp only [R] at q2
 have hrun:(execOp a.eval o2).run P w = .ok (.value (.slice (some ⟨g,n * sz,none⟩) (rows.length - n) (cap - n))) w:=by
  have e1:a.eval (.tmp ss) = .slice (some ⟨g,0,none⟩) rows.length cap:=hvs
  have hb1:(Instr.sliceBound (a.eval y) rows.length .sliceB).run P w = .ok n w:=run_sliceBound q2 h0 hnt (by omega) _ w
  have hbs:(Instr.sliceBounds true rows.length cap (some (a.eval y)) none none).run P w = .ok (n,rows.length,cap) w:=by
   simp [Instr.sliceBounds,hb1]
  have hcn:¬ cap = n:=by omega
  simp only [execOp,ho,e1]
  simp [Instr.sliceAt,run_underlying ht,Instr.slice,hbs,run_sizeOf hsz,hcn,Addr.add_none]
 unfold Oper.wp
 rw [hrun,Oper.upon_value,hc2]
 have hev:(a.put (some c) (.slice (some ⟨g,n * sz,none⟩) (rows.length - n) (cap - n))).eval (.tmp c) = .slice (some ⟨g,n * sz,none⟩) (rows.length - n) (cap - n):=by
  have:c < a.tmps.size:=by rw [h.size]; exact hc
  simp [Act.put,Act.eval,this]
 have hclr:=zmS (P:=P) (w:=w) (t:=t) (ty:=o3.type) (e:=e) (te:=e) (g:=g) (o:=n * sz) (n:=rows.length - n) (c:=cap - n) (sz:=sz) (i:=ti) (z:=z) (cur:=cur) ht i1 i2 hzc hz1 hgb (by omega) (by rw [hcs]; omega)
 rw [hbound] at hclr
 have hex:(execOp (a.put (some c) (.slice (some ⟨g,n * sz,none⟩) (rows.length - n) (cap - n))).eval o3).run P w = .ok (.value (.tuple #[])) (w.setRow g (cur.toList.take (n * sz)++zk (List.replicate (rows.length - n) z)++cur.toList.drop (rows.length * sz)).toArray):=by
  simp only [execOp,ho3,resolve,invoke,builtin,Sem.run_bind,Sem.run_pure,Result.andThen_ok,List.map_toArray,List.map_cons,List.map_nil,hev,hclr]
 rw [hex,Oper.upon_value,hd3]
 generalize hcur':(cur.toList.take (n * sz)++zk (List.replicate (rows.length - n) z)++cur.toList.drop (rows.length * sz)).toArray = cur'
 have hfl:(zk (List.replicate (rows.length - n) z)).length = (rows.length - n) * sz:=by
  rw [ye (k:=sz) (by intro y hy; rw [List.mem_replicate] at hy; rw [hy.2]; exact hzc)]; simp
 have hget:∀ q:Nat,cur'[q]? = if q < n * sz then cur[q]? else if q < rows.length * sz then (zk (List.replicate (rows.length - n) z))[q - n * sz]? else cur[q]?:=by
  intro q
  rw [<- hcur']
  have hmin:min (n * sz) cur.size = n * sz:=by omega
  simp only [List.getElem?_toArray,List.getElem?_append,zvQ,List.length_take,Array.length_toList,hmin,List.getElem?_take,List.getElem?_drop,Array.getElem?_toList,hfl,hbound]
  by_cases c1:q < n * sz
  ·have:q < rows.length * sz:=by omega
   simp [c1,this]
  ·by_cases c2:q < rows.length * sz
   ·simp [c1,c2]
   ·simp only [c1,c2,if_false]
    congr 1; omega
 have hsize:cur'.size = cur.size:=by
  rw [<- hcur']
  simp only [List.size_toArray,zvQ,List.length_take,Array.length_toList,List.length_drop,hfl]
  omega
 have hset:(w.setRow g cur').heap[g]? = some (.cells cur' e (0,0)):=setRow_heap w g cur cur' e (0,0) hgb
 have hcell:∀ q,(w.setRow g cur').cell? ⟨g,q,none⟩ = cur'[q]?:=fun q=>cell_setRow_same w g q cur cur' e (0,0) hgb
 have hcell0:∀ q,w.cell? ⟨g,q,none⟩ = cur[q]?:=fun q=>by simp [World.cell?,hgb]
 have hch:=h.changed (rows':=rows.take n++List.replicate (rows.length - n) zv) (sz:=sz) htk hcl hvs hg hN (zfk.setRow w g cur') hgb hset hsize hbf (by simp; omega) hcp hm ?_
 ·exact hn _ _ _ pr lam hk ((hw1 hch).put (fun d hd=>by cases hd; exact hc) (by simp [R]) trivial)
 refine RR.of_get fun j r hj=>?_
 by_cases hjn:j < n
 ·rw [List.getElem?_append_left (by simp; omega),List.getElem?_take,if_pos hjn] at hj
  obtain ⟨y0,p1,p2,p3⟩:=hrr.get j r hj
  refine ⟨y0,R.flat r y0 (ZI hfr r (zvu hj)) p1,p2,fun q u hq=>?_⟩
  obtain ⟨p4,p5⟩:=p3 q u hq
  refine ⟨⟨?_,p4.2⟩,p5⟩
  have hqs:q < sz:=by
   have:=(Array.getElem?_eq_some_iff.1 hq).1
   omega
  have hle:(j + 1) * sz <= n * sz:=Nat.mul_le_mul_right _ (by omega)
  rw [Nat.add_mul,Nat.one_mul] at hle
  show (w.setRow g cur').cell? _ = _
  rw [hcell,hget,if_pos (by omega)]
  have:=p4.1
  change w.cell? _ = _ at this
  rwa [hcell0] at this
 ·rw [List.getElem?_append_right (by simp; omega)] at hj
  simp only [List.length_take,Nat.min_eq_left (Nat.le_of_lt hnlt)] at hj
  rw [List.getElem?_replicate] at hj
  split at hj
  ·rename_i hjl
   cases hj
   have hjlen:j < rows.length:=by omega
   obtain ⟨y0,p1,p2,p3⟩:=hrr.get j _ (zvs hjlen)
   refine ⟨z,hzR _,hzc,fun q u hq=>?_⟩
   have hqs:q < sz:=by
    have:=(Array.getElem?_eq_some_iff.1 hq).1
    omega
   obtain ⟨u0,hu0⟩:∃ u0,y0.cells[q]? = some u0:=⟨_,Array.getElem?_eq_getElem (by omega)⟩
   obtain ⟨p4,_⟩:=p3 q u0 hu0
   refine ⟨⟨?_,p4.2⟩,hz1 u (by simpa using Array.mem_of_getElem? hq)⟩
   have hle:(j + 1) * sz <= rows.length * sz:=Nat.mul_le_mul_right _ (by omega)
   rw [Nat.add_mul,Nat.one_mul] at hle
   have hge:n * sz <= j * sz:=Nat.mul_le_mul_right _ (by omega)
   show (w.setRow g cur').cell? _ = _
   rw [Nat.zero_add,hcell,hget,if_neg (by omega),if_pos (by omega),YW,hzc]
   have e1:j * sz + q - n * sz = (j - n) * sz + q:=by
    rw [Nat.sub_mul]; omega
   rw [e1,Nat.mul_comm (j - n) sz,Nat.mul_add_mod,Nat.mod_eq_of_lt hqs,if_pos]
   ·simpa using hq
   ·have h3:(j - n + 1) * sz <= (rows.length - n) * sz:=Nat.mul_le_mul_right _ (by omega)
    rw [Nat.add_mul,Nat.one_mul,Nat.mul_comm] at h3
    omega
  ·cases hj
def zou (c:Nat) (t:TypeId):Op->Bool
 | .call { callee:=.builtin .clear,args:=xs,argTypes:=ts }=>(match xs.toList,ts.toList with | [.tmp c'],[t']=>Nat.beq c' c && Nat.beq t' t | _,_=>false)
 | _=>false
theorem zmT {c:Nat} {t:TypeId} {o:Op} (h:zou c t o = true):o = .call { callee:=.builtin .clear,args:=#[.tmp c],argTypes:=#[t] }:=by
 unfold zou at h
 split at h
 ·rename_i xs ts
  split at h
  ·rename_i c' t' h1 h2
   simp only [zvL] at h
   have e1:=zvM h.1
   have e2:=zvM h.2
   subst e1 e2
   have a1:xs = #[.tmp c']:=by rw [<- Array.toList_inj]; exact h1
   have a2:ts = #[t']:=by rw [<- Array.toList_inj]; exact h2
   rw [a1,a2]
  ·cases h
 ·cases h
def zqF (P:Program) (o2 o3:Oper) (st:St) (K:St->Prop):Prop:=(o2.guard = none/\o3.guard = none)/\(match o2.op,o2.dst,o3.dst with
 | .slice t (.tmp ss) (some y) none none,some c,none=>zou c t o3.op = true/\(match st.env ss,st.tok ss,st.eval y with
  | .list rows,some (tk,e),.int _ i=>tcl tk = 0/\yZ P t = some e/\(match sizeT P e,zeroT P e with
   | some sz,some zv=>(zv.csize = some sz/\zv.flat = true/\yL sz rows/\V.flatL rows = true/\0 <= i/\i < rows.length)/\(∀ i B,st.box i = some B->V.flatL B.cells = true) /\
    ∃ st1,(∀ (F:Fr) (a:Act) (w:World) (pr:Nat->Nat->Prop) (lam:Nat->Option Nat),zl P F (st.changed tk (rows.take i.toNat++List.replicate (rows.length - i.toNat) zv)) a w pr lam->zl P F st1 a w pr lam)/\K (st1.put (some c) .any none)
   | _,_=>False)
  | _,_,_=>False)
 | _,_,_=>False)
def zcl (P:Program):List Oper->St->(St->Prop)->Prop
 | [],_,_=>False
 | o :: os,st,K=>match os with
  | []=>False
  | [o3]=>zqF P o o3 st K
  | _=>o.guard = none/\zcj P false o st fun st'=>zcl P os st' K
theorem zbe {o:Oper} {ops:Array Oper} {t:Array Value} (h:o.guard = none):Region.wanted o (yielded ops t) = true:=by unfold Region.wanted; rw [h]
theorem zcW {ops:Array Oper} {K:St->Prop}:∀ (l:List Oper) (i:Nat) (st:St),(∀ j,l[j]? = ops[i + j]?)->l.all (Zr n') = true->zcl P l st K ->
  ∀ (F:Fr) (a:Act) (w:World) (pr:Nat->Nat->Prop) (lam:Nat->Option Nat),F.nt = n'->zl P F st a w pr lam->∀ Q:Exit->Act->World->Prop,
   (∀ st' a' w' pr' lam',K st'->zl P F st' a' w' pr' lam'->Q .normal a' w')->wpOps P ops Q (List.range' i l.length) a w
 | [],i,st,_,_,h,F,a,w,pr,lam,_,hs,Q,hn=>h.elim
 | [o],i,st,_,_,h,F,a,w,pr,lam,_,hs,Q,hn=>h.elim
 | [o2,o3],i,st,hl,hall,h,F,a,w,pr,lam,hF,hs,Q,hn=>by
  have h0:ops[i]? = some o2:=by simpa using (hl 0).symm
  have h1:ops[i + 1]? = some o3:=by simpa using (hl 1).symm
  simp only [List.all_cons,zvL] at hall
  unfold zcl at h
  simp only at h
  obtain ⟨⟨g2,g3⟩,h⟩:=h
  simp only [List.length_cons,List.length_nil,List.range'_succ,List.range'_zero]
  unfold wpOps
  simp only [h0]
  rw [zbe g2]
  simp only [if_true]
  left
  split at h
  ·rename_i t ss y c ho2 hc2 hd3
   obtain ⟨hcl,h⟩:=h
   have hcn:c < n':=yO hall.1 c hc2
   split at h
   ·rename_i rows tk e k iv he ht hy
    obtain ⟨h3,h4,h⟩:=h
    split at h
    ·rename_i sz zv hsz hzv
     obtain ⟨⟨k1,k2,k3,k4,k5,k6⟩,k7,st1,k8,k9⟩:=h
     have:=zsC (n':=n') (Q:=Q) (next:=fun a' w'=>Q .normal a' w') ho2 hc2 hcn (zmT hcl) hd3 he ht h3 hy (z7 h4) hsz hzv k1 k2 k3 k4 k5 k6 k7 (fun q=>k8 _ _ _ _ _ q) k9 hF hs hn
     refine Oper.wp_mono (fun a' w' q=>?_) this
     unfold wpOps
     simp only [h1]
     rw [zbe g3]
     simp only [if_true]
     exact .inl q
    ·exact h.elim
   ·exact h.elim
  ·exact h.elim
 | o :: o1 :: o2 :: os,i,st,hl,hall,h,F,a,w,pr,lam,hF,hs,Q,hn=>by
  have h0:ops[i]? = some o:=by simpa using (hl 0).symm
  have hall':=List.all_cons.symm.trans hall
  rw [List.all_cons,zvL] at hall
  have hl':∀ j,(o1 :: o2 :: os)[j]? = ops[i + 1 + j]?:=fun j=>by have:=hl (j + 1); simpa [Nat.add_assoc,Nat.add_comm 1 j] using this
  unfold zcl at h
  simp only at h
  obtain ⟨hg,h⟩:=h
  rw [List.length_cons,List.range'_succ]
  simp only [wpOps,h0]
  rw [zbe hg]
  simp only [if_true]
  left
  exact ZB hall.1 h F a w pr lam hF hs _ _ fun st' a' w' pr' lam' hk hs'=>zcW (o1 :: o2 :: os) (i + 1) st' hl' hall.2 hk F a' w' pr' lam' hF hs' Q hn
theorem AWp.clr {id:Nat} {ops:Array Oper} {Q:Exit->St->Prop} (hall:ops.toList.all (Zr n') = true) (h:zcl P ops.toList st (Q .normal)):AWp P n' (.region id ops false) st Q:=by
 intro F a w pr lam hF hs
 refine wp_region ?_
 have:=zcW (P:=P) (n':=n') (ops:=ops) ops.toList 0 st (by simp) hall h F a w pr lam hF hs (fun ex a' w'=>∃ st' pr' lam',Q ex st'/\zl P F st' a' w' pr' lam') (fun st' a' w' pr' lam' k r=>⟨st',pr',lam',k,r⟩)
 rwa [Array.length_toList,<- List.range_eq_range'] at this
end
end Go.Eng
namespace Go.Eng
open Go.RowKit
theorem zk0 {w:World} {g n:Nat} {cur:Array Value} {e:TypeId} (hg:w.heap[g]? = some (.cells cur e (0,0))) (k:Nat) :
  (w.freeze ⟨g,n,none⟩ 1).heap[k]? = if k = g then some (.cells cur e (n,n + 1)) else w.heap[k]?:=by
 unfold World.freeze
 rw [if_neg (by decide)]
 simp only [Array.getElem?_modify]
 by_cases h:g = k
 ·subst h; simp [hg]
 ·rw [if_neg h,if_neg (fun q=>h q.symm)]
section
variable {P:Program} {n':Nat} {F:Fr} {st:St} {a:Act} {w:World} {pr:Nat->Nat->Prop} {lam:Nat->Option Nat}
theorem zpp {o:Oper} {K:St->Prop} {t e:TypeId} {ss tk sz:Nat} {rows:List V} (ho:o.op = .convert t t (.tmp ss)) (hs:st.env ss = .list rows) (htk:st.tok ss = some (tk,e)) (hcl:tcl tk = 0)
  (ht:P.underlying t = some (.slice e)) (he:P.underlying e = some (.int .u8)) (hsz:sizeT P e = some sz) (hr:yL sz rows) (hfr:V.flatL rows = true) (hne:rows ≠ []) (hbf:∀ i B,st.box i = some B->V.flatL B.cells = true)
  {st1:St} (hw1:∀ {F:Fr} {a:Act} {w:World} {pr:Nat->Nat->Prop} {lam:Nat->Option Nat},zl P F (st.dropped tk) a w pr lam->zl P F st1 a w pr lam) (hwt:∀ s t e,st1.tok s = some (t,e)->(st.dropped tk).tok s = some (t,e)) (hwb:∀ i,st1.box i = st.box i)
  (hd:∀ d,o.dst = some d->d < n') (hk:K (st1.put o.dst (.list rows) none)):Zl P n' o st K:=by
 intro F a w pr lam hF h next Q hn
 subst hF
 generalize hhb:zw 0 (a.tmps.getD ss undef) = hb
 obtain ⟨hr00,htb00,hbb00,hmine⟩:=h.release htk hcl hbf hhb
 have hr0:=hw1 hr00
 have htb0:∀ s t e',st1.tok s = some (t,e')->∀ g,zw (tcl t) (a.tmps.getD s undef) = some g->hb ≠ some g:=fun s t e' hq=>htb00 s t e' (hwt s t e' hq)
 have hbb0:∀ i B b,st1.box i = some B->lam i = some b->hb ≠ some b:=fun i B b hq=>hbb00 i B b (by rw [<- hwb]; exact hq)
 obtain ⟨g,cap,cur,hv,hc,hm,hg,hN,hcu,hcs,hrr,hpr⟩:=h.own0 hs htk hcl hsz hr hne
 have hbg:hb = some g:=hhb.symm.trans hg
 subst hbg
 let w':=w.freeze ⟨g,cur.size,none⟩ 1
 have hw':∀ k,w'.heap[k]? = if k = g then some (.cells cur e (cur.size,cur.size + 1)) else w.heap[k]?:=zk0 hcu
 have hrun:(execOp a.eval o).run P w = .ok (.value (.slice (some ⟨g,0,none⟩) rows.length cap)) w':=by
  have e1:a.eval (.tmp ss) = .slice (some ⟨g,0,none⟩) rows.length cap:=hv
  have hsh:w.shape? g = some (e,cur.size):=by
   unfold World.shape?
   rw [hcu]
  simp only [execOp,ho,e1]
  simp [convert,run_underlying ht,run_underlying he,markStringish,hsh,w']
 unfold Oper.wp
 rw [hrun,Oper.upon_value]
 have hblt:∀ b,some g = some b->b < w.heap.size:=fun b hq=>by
  cases hq
  exact (Array.getElem?_eq_some_iff.1 hcu).1
 have hszw:w'.heap.size = w.heap.size:=by
  show (w.freeze ⟨g,cur.size,none⟩ 1).heap.size = _
  unfold World.freeze
  rw [if_neg (by decide)]
  simp
 have hos:w'.os = w.os:=by show (w.freeze ⟨g,cur.size,none⟩ 1).os = _; unfold World.freeze; rw [if_neg (by decide)]
 have htape:w'.tape = w.tape:=by show (w.freeze ⟨g,cur.size,none⟩ 1).tape = _; unfold World.freeze; rw [if_neg (by decide)]
 have hout:w'.output = w.output:=by show (w.freeze ⟨g,cur.size,none⟩ 1).output = _; unfold World.freeze; rw [if_neg (by decide)]
 have hdr:w'.drawn = w.drawn:=by show (w.freeze ⟨g,cur.size,none⟩ 1).drawn = _; unfold World.freeze; rw [if_neg (by decide)]
 let pr':Nat->Nat->Prop:=fun b o=>prM pr (some g) b o ∨ (b = g/\o < rows.length * sz)
 have hleft:zot w pr (fun j=>(([]:List Nat)[j]?).bind lam) (some g) w' pr':=⟨hos,htape,hout,DLE.of_eq hdr,by rw [hszw]; exact zvF _,fun k _ _ hk'=>by rw [hw',if_neg (fun q=>hk' (by rw [q]))],fun b o hp hq=>.inl ⟨hp,hq⟩,fun b o hp=>by
  rcases hp with hp | ⟨hp,_⟩
  ·exact .inl hp
  ·exact .inr (.inr (by rw [hp]))⟩
 have hs':=hr0.calledM htb0 hbb0 hmine hblt List.nodup_nil (show Z1 st1 [] [] from trivial) rfl (outs:=[]) (by simp) (lam':=fun j=>(([]:List Nat)[j]?).bind lam) (fun j=>rfl) (fun j B hB=>by simp at hB) hleft
 rw [zcV] at hs'
 refine hn _ _ w' pr' lam hk (hs'.put hd ?_ trivial)
 simp only [R]
 refine ⟨some ⟨g,0,none⟩,cap,rfl,hc,hm,.inr ⟨g,0,sz,rfl,?_⟩⟩
 refine RR.of_get fun j r hj=>?_
 have hjl:j < rows.length:=(List.getElem?_eq_some_iff.1 hj).1
 obtain ⟨z,p1,p2,p3⟩:=hrr.get j r hj
 refine ⟨z,R.flat r z (ZI hfr r (zvu hj)) p1,p2,fun q u hq=>?_⟩
 obtain ⟨p4,p5⟩:=p3 q u hq
 refine ⟨⟨?_,.inr ⟨rfl,?_⟩⟩,p5⟩
 ·have h1:=p4.1
  show w'.cell? _ = _
  unfold World.cell? at h1 ⊢
  dsimp only at h1 ⊢
  rw [hcu] at h1
  rw [hw',if_pos rfl]
  exact h1
 ·have hqs:q < sz:=by
   have:=(Array.getElem?_eq_some_iff.1 hq).1
   omega
  have:(j + 1) * sz <= rows.length * sz:=Nat.mul_le_mul_right _ (by omega)
  rw [Nat.add_mul,Nat.one_mul] at this
  omega
theorem zfd {o:Oper} {K:St->Prop} {x:Operand} {ss tk:Nat} {t u e:TypeId} {rows rows2:List V} {sz by':Nat} {zv:V}
  (ho:o.op = .call { callee:=.builtin .append,args:=#[.tmp ss,x],argTypes:=#[t,u] }) (hs:st.env ss = .list rows) (htk:st.tok ss = some (tk,e))
  (hcl:tcl tk < 2) (ht:P.underlying t = some (.slice e)) (hu:srcT P u = true) (hsz:sizeT P e = some sz) (hby:bytesT P e = some by') (hz:zeroT P e = some zv) (hzs:zv.csize = some sz)
  (hr1:yL sz rows)
  (hx:∀ (w:World) (pr:Nat->Nat->Prop) (lam:Nat->Option Nat) (xv:Value),R ⟨w,pr,lam⟩ (st.eval x) xv->∃ ys,Src P w pr lam sz xv rows2 ys)
  (hb:(rows.length + rows2.length) * by' <= 140737488355328) (hl:rows.length + rows2.length <= maxLen)
  {tn:Nat} (htn:tcl tn = 0) (hne:rows2.length ≠ 0)
  (hd:∀ d,o.dst = some d->d < n') (hk:K (((st.clear tk).clear tn).put o.dst (.list (rows++rows2)) (some (tn,e)))):Zl P n' o st K:=by
 intro F a w pr lam hF h next Q hn
 subst hF
 obtain ⟨i,z,i1,i2,i3,i4,i5⟩:=zqI hsz hby hz
 have hzc:z.cells.size = sz:=(Zv ⟨w,pr,lam⟩ z).csize (by rw [i5]; exact hzs)
 have hss:=h.env ss
 rw [hs] at hss
 obtain ⟨ysOld,srcOld⟩:=Src.list (P:=P) hss hr1
 obtain ⟨ys,src⟩:=hx w pr lam _ (h.eval x)
 have hss':=hss
 simp only [R] at hss
 obtain ⟨base,cap,hv,hc,hm,hbase⟩:=hss
 have hmaxl:rows.length + rows2.length <= 9223372036854775807:=by simp only [maxLen] at hl; omega
 have hexec:∀ {v' w'},(Builtin.append_ #[t,u] o.type #[.slice base rows.length cap,a.eval x]).run P w = .ok v' w'->(execOp a.eval o).run P w = .ok (.value v') w':=by
  intro v' w' hr
  have hv':a.eval (.tmp ss) = .slice base rows.length cap:=hv
  simp only [execOp,ho,resolve,invoke,builtin,Sem.run_bind,Sem.run_pure,Result.andThen_ok,List.map_toArray,List.map_cons,List.map_nil,hv',hr]
 by_cases h0:rows2.length = 0
 ·exact absurd h0 hne
 ·by_cases hroom:rows.length + rows2.length <= cap
  ·-- in place
   have hgb:∃ b o',base = some ⟨b,o',none⟩:=by
    rcases hbase with ⟨_,_,rfl⟩ | ⟨b,o',k,rfl,_⟩
    ·omega
    ·exact ⟨b,o',rfl⟩
   obtain ⟨g,og,rfl⟩:=hgb
   have hgbl:zw (tcl tk) (a.tmps.getD ss undef) = some g:=by
    rw [hv]
    have:tcl tk = 0/\0 < cap ∨ tcl tk = 1/\rows.length < cap:=by omega
    simp only [zw,if_pos this]
   obtain ⟨hN,n',cap',cur,sz',q1,q2,q3,q4,q5⟩:=h.own ss tk e htk g hgbl
   rw [hv] at q1
   simp only [Value.slice.injEq,zvO,Addr.mk.injEq] at q1
   obtain ⟨⟨_,rfl,_⟩,rfl,rfl⟩:=q1
   obtain rfl:sz = sz':=by simp [i1] at q3; omega
   have hfl:(zk ys).length = rows2.length * sz:=by rw [ye src.size,<- src.rel.length]
   have hfo:(zk ysOld).length = rows.length * sz:=by rw [ye srcOld.size,<- srcOld.rel.length]
   have hfit:rows.length * i.size + (zk ys).length <= cur.size:=by
    rw [i2,hfl,q4,<- Nat.add_mul]; exact Nat.mul_le_mul_right _ hroom
   have hrun:=zb4 (ty:=o.type) ht hu i1 (w:=w) (g:=g) (sLen:=rows.length) (sCap:=cap) q2 (src.len w) (by rw [i2]; exact src.first w (fun _ _ _=>rfl)) src.one hroom hfit
   unfold Oper.wp
   rw [hexec hrun,Oper.upon_value]
   rw [i2] at hfit ⊢
   generalize hcur':(cur.toList.take (rows.length * sz)++zk ys++cur.toList.drop (rows.length * sz + (zk ys).length)).toArray = cur'
   have hget:∀ j:Nat,cur'[j]? = if j < rows.length * sz then cur[j]? else if j < rows.length * sz + (zk ys).length then (zk ys)[j - rows.length * sz]? else cur[j]?:=by
    intro j
    rw [<- hcur']
    have hmin:min (rows.length * sz) cur.size = rows.length * sz:=by omega
    simp only [List.getElem?_toArray,List.getElem?_append,zvQ,List.length_take,Array.length_toList,hmin,List.getElem?_take,List.getElem?_drop,Array.getElem?_toList]
    by_cases c1:j < rows.length * sz
    ·simp [c1]; omega
    ·by_cases c2:j < rows.length * sz + (zk ys).length
     ·simp [c1,c2]
     ·simp only [c1,c2,if_false]
      congr 1; omega
   have hsize':cur'.size = cur.size:=by
    rw [<- hcur']
    simp; omega
   have hrel:=h.grow (m:=rows2.length) hcl htk hv (by omega) q2 hN (cur':=cur') (fun j hj=>by rw [hget]; simp [hj]) q5
   have hle:Env.Le ⟨w,pr,lam⟩ ⟨w.setRow g cur',fun b o=>pr b o ∨ (b = g/\rows.length * sz <= o/\o < (rows.length + rows2.length) * sz),lam⟩:=by
    refine ⟨fun _ _ h=>h,fun _ _ h=>.inl h,fun b o hp=>?_⟩
    show (w.setRow g cur').cell? _ = _
    by_cases hb:b = g
    ·subst hb
     have ho:o < rows.length * sz:=by
      rcases Nat.lt_or_ge o (rows.length * sz) with q | q
      ·exact q
      ·exact absurd hp (q5 o q)
     rw [cell_setRow_same w b o cur cur' e (0,0) q2,hget]
     simp [ho,World.cell?,q2]
    ·exact cell?_setRow_ne hb
   refine hn _ _ _ _ lam hk ((hrel.clear tn).put hd ?_ ?_)
   ·simp only [R]
    refine ⟨some ⟨g,0,none⟩,cap,by rw [zvQ],by rw [zvQ]; exact hroom,hm,.inr ⟨g,0,sz,rfl,?_⟩⟩
    refine RR.of_vals (ys:=ysOld++ys) ((srcOld.rel.mono hle).append (src.rel.mono hle)) (fun y hy=>?_) fun j z hz=>?_
    ·rcases List.mem_append.1 hy with hy | hy
     ·exact srcOld.size y hy
     ·exact src.size y hy
    ·rw [qx,List.getElem?_append,hfo] at hz
     rw [Nat.zero_add]
     split at hz
     ·rename_i hj
      rcases hbase with ⟨hbn,_⟩ | ⟨b',o2,k',hbe,hrr⟩
      ·simp [hbn] at hj
      ·simp only [zvO,Addr.mk.injEq] at hbe
       obtain ⟨rfl,rfl,_⟩:=hbe
       have hk':k' = sz:=by
        rcases rows with _ | ⟨r,rs⟩
        ·simp at hj
        ·exact hrr.size hr1 (r:=r) (by simp)
       subst hk'
       obtain ⟨ys0,p1,p2,p3⟩:=hrr.vals
       have hf0:=srcOld.first w (fun _ _ _=>rfl)
       have hl0:(zk ys0).length = rows.length * k':=by rw [ye p2,<- p1.length]
       have hf1:(Builtin.firstCells k' rows.length (.slice (some ⟨g,0,none⟩) rows.length cap)).run P w = .ok (zk ys0).toArray w:=by
        have:=run_loadCells_list (P:=P) w ⟨g,0,none⟩ (zk ys0) (fun j v hv'=>by rw [Addr.add_none]; exact (p3 j v hv').1.1)
        rw [hl0] at this
        simpa [Builtin.firstCells] using this
       rw [hv] at hf0
       rw [hf0] at hf1
       simp only [Result.ok.injEq,and_true] at hf1
       have hfe:zk ysOld = zk ys0:=by simpa using congrArg Array.toList hf1
       rw [hfe] at hz
       obtain ⟨r1,r2⟩:=p3 j z hz
       rw [Nat.zero_add] at r1
       exact ⟨hle.at r1,r2⟩
     ·rename_i hj
      have hjlt:j - rows.length * sz < (zk ys).length:=(List.getElem?_eq_some_iff.1 hz).1
      refine ⟨⟨?_,.inr ⟨rfl,by omega,?_⟩⟩,src.one z (zvu hz)⟩
      ·show (w.setRow g cur').cell? _ = _
       rw [cell_setRow_same w g j cur cur' e (0,0) q2,hget,if_neg hj,if_pos (by omega)]
       exact hz
      ·rw [Nat.add_mul]; omega
   ·refine ⟨fun g' hg'=>?_,fun s t' e' g' hs' h1 h2=>?_,fun i' B b hB hl' hg'=>?_,fun s e' hs=>absurd rfl (zP hs).2.1,fun hc'=>(by rw [htn] at hc'; cases hc'),fun s e' b o g hs=>absurd rfl (zP hs).2.2,fun s u e' b o g hu'=>by exfalso; unfold tcl at htn; omega⟩
    ·have hg'':g' = g:=by
      simp only [zw] at hg'
      split at hg'
      ·cases hg'; rfl
      ·cases hg'
     subst hg''
     refine ⟨hN,rows.length + rows2.length,cap,cur',sz,rfl,setRow_heap w g' cur cur' e (0,0) q2,by simp [i1,i2],by rw [hsize',q4],fun o ho hp=>?_⟩
     rcases hp with hp | ⟨_,_,hp⟩
     ·refine q5 o ?_ hp
      rw [Nat.add_mul] at ho; omega
     ·omega
    ·exfalso
     have hg'':g' = g:=by
      simp only [zw] at h2
      split at h2
      ·cases h2; rfl
      ·cases h2
     rw [hg''] at h1
     obtain ⟨r1,r2,_⟩:=zP (zP hs').1
     exact r2 (h.coh s ss t' tk e' e g r1 htk h1 hgbl)
    ·have hg'':b = g:=by
      simp only [zw] at hg'
      split at hg'
      ·cases hg'; rfl
      ·cases hg'
     rw [hg''] at hl'
     exact h.apart i' B g ss tk e hB hl' htk hgbl
  ·-- a new array
   have hge:=grownCap_ge w (rows.length + rows2.length) cap e
   have hcm:grownCap w (rows.length + rows2.length) cap e <= maxLen:=grownCap_le_maxLen w _ cap e hl
   have hof:=srcOld.first w.drew (fun _ _ _=>rfl)
   rw [hv] at hof
   have hxf:=src.first w.drew (fun _ _ _=>rfl)
   have hrun:=run_append_new (ty:=o.type) (base:=base) ht hu i1 i4 (w:=w) (src.len w) (by rw [i2]; exact hxf) (by rw [i2]; exact hof) (by omega) (by omega) (growslice_fits (by omega) (by rw [i3]; exact hb))
   unfold Oper.wp
   rw [hexec hrun,Oper.upon_value]
   generalize grownCap w (rows.length + rows2.length) cap e = nc at hge hcm ⊢
   have hfl:(zk ys).length = rows2.length * sz:=by rw [ye src.size,<- src.rel.length]
   have hfo:(zk ysOld).length = rows.length * sz:=by rw [ye srcOld.size,<- srcOld.rel.length]
   generalize hw':w.drew.alloc (.cells ((zk ysOld).toArray++(zk ys).toArray++Builtin.zeroCells z.cells (nc - (rows.length + rows2.length))) e) = w'
   have hnew:w'.heap[w.heap.size]? = some (.cells ((zk ysOld).toArray++(zk ys).toArray++Builtin.zeroCells z.cells (nc - (rows.length + rows2.length))) e):=by
    rw [<- hw']; exact heap_alloc_new w.drew _
   have hwsz:w'.heap.size = w.heap.size + 1:=by rw [<- hw']; simp
   have hbel:Below w.heap.size w w':=by
    rw [<- hw']
    exact ((Below.refl _ _).drew).alloc (zvF _) _
   have hext:Ext w pr w' (fun b o=>pr b o ∨ (b = w.heap.size/\o < (rows.length + rows2.length) * sz)) :=
    Ext.protect w pr w' hbel (by rw [<- hw']; exact (DLE.drewN w 1).trans (DLE.of_eq rfl)) _ (fun b o hp=>by rw [hp.1]; omega)
   have hle:=hext.le (lam:=lam) h.prlt
   have hcells:∀ j z',(zk (ysOld++ys))[j]? = some z'->w'.cell? ⟨w.heap.size,j,none⟩ = some z':=by
    intro j z' hz'
    rw [qx] at hz'
    have hlt:j < (zk ysOld++zk ys).length:=(List.getElem?_eq_some_iff.1 hz').1
    simp only [World.cell?,hnew]
    simp only [Option.isSome_none,Bool.false_eq_true,if_false]
    rw [Array.getElem?_append,if_pos (by simpa using hlt)]
    simpa using hz'
   refine hn _ _ w' _ lam hk ((((h.ext hext).clear tk).clear tn).put hd ?_ ?_)
   ·simp only [R]
    refine ⟨some ⟨w.heap.size,0,none⟩,nc,by rw [zvQ],by rw [zvQ]; exact hge,hcm,.inr ⟨w.heap.size,0,sz,rfl,?_⟩⟩
    refine RR.of_vals (ys:=ysOld++ys) ((srcOld.rel.mono hle).append (src.rel.mono hle)) (fun y hy=>?_) fun j z' hz'=>?_
    ·rcases List.mem_append.1 hy with hy | hy
     ·exact srcOld.size y hy
     ·exact src.size y hy
    ·rw [Nat.zero_add]
     have hlt:j < (zk (ysOld++ys)).length:=(List.getElem?_eq_some_iff.1 hz').1
     rw [qx,zvQ,hfo,hfl,<- Nat.add_mul] at hlt
     refine ⟨⟨hcells j z' hz',.inr ⟨rfl,hlt⟩⟩,?_⟩
     have hm':=zvu hz'
     rw [qx] at hm'
     rcases List.mem_append.1 hm' with hm' | hm'
     ·exact srcOld.one z' hm'
     ·exact src.one z' hm'
   ·have hown:Own P (fun g=>w.heap.size <= g) ⟨w',fun b o=>pr b o ∨ (b = w.heap.size/\o < (rows.length + rows2.length) * sz),lam⟩ (tcl tn) e (.slice (some ⟨w.heap.size,0,none⟩) (rows.length + rows2.length) nc):=by
     intro g hg
     have hg'':g = w.heap.size:=by
      simp only [zw] at hg
      split at hg
      ·cases hg; rfl
      ·cases hg
     subst hg''
     refine ⟨zvF _,_,nc,_,sz,rfl,hnew,by simp [i1,i2],?_,fun o ho hp=>?_⟩
     ·simp only [Array.size_append,List.size_toArray,size_zeroCells,hzc,hfo,hfl,<- Nat.add_mul]
      congr 1; omega
     ·rcases hp with hp | ⟨_,hp⟩
      ·have:=h.prlt _ _ hp; omega
      ·omega
    exact zf4.fresh (h.clear tk) hext tn (by rw [htn]; decide) hown
end
end Go.Eng
namespace Go.Eng
open Go.RowKit
def Y6 (P:Program) (ops:Array Oper):Nat->Array Bool->St->(St->Prop)->Prop
 | 0,listed,st,K=>Region.ready .any ops listed = []/\K st
 | fuel + 1,listed,st,K=>match Region.ready .any ops listed with
  | []=>K st
  | i :: is=>match (i :: is).find? (zcT ops listed) with
   | some j=>(match ops[j]? with
    | some o=>zdN P o st fun st'=>Y6 P ops fuel (listed.setIfInBounds j true) st' K
    | none=>False)
   | none=>∀ j ∈ i :: is,match ops[j]? with
    | some o=>zjc (ops.toList.map (·.dst)) st o.guard (zcj P false o st fun st'=>Y6 P ops fuel (listed.setIfInBounds j true) st' K) (Y6 P ops fuel (listed.setIfInBounds j true) (st.put o.dst .un none) K)
    | none=>False
section
variable {P:Program} {n':Nat}
theorem YQ {ops:Array Oper} {K:St->Prop} (hall:∀ (i:Nat) (o:Oper),ops[i]? = some o->Zr n' o = true) (hns:Region.noSelect ops = true) {F:Fr} (hF:F.nt = n') {Q:Exit->Act->World->Prop} (hp:∀ c a w,¬ Q (.panic c) a w)
  (hn:∀ st' a' w' pr' lam',K st'->zl P F st' a' w' pr' lam'->Q .normal a' w'):∀ (fuel:Nat) (listed:Array Bool) (st:St) (a:Act) (w:World) (pr:Nat->Nat->Prop) (lam:Nat->Option Nat),
   Y6 P ops fuel listed st K->zl P F st a w pr lam->wpAny P .any ops Q fuel listed a w
 | 0,listed,st,a,w,pr,lam,h,hs=>⟨h.1,hn st a w pr lam h.2 hs⟩
 | fuel + 1,listed,st,a,w,pr,lam,h,hs=>by
  unfold Y6 at h
  split at h
  ·rename_i hr
   exact ⟨fun _=>hn st a w pr lam h hs,by rw [hr]; simp⟩
  ·rename_i i is hr
   split at h
   ·rename_i j hj
    have hm:=List.mem_of_find?_eq_some hj
    have hc:=List.find?_some hj
    split at h
    ·rename_i o ho
     unfold zcT at hc
     rw [ho] at hc
     simp only [zvL] at hc
     obtain ⟨v,st',hy,hk,hs'⟩:=zcU (ops:=ops) (hall j o ho) hc.1 h hF hs
     refine wpAny_take ho hns hc.2 (by rw [hr]; simpa using hm) (fun c a w q=>absurd q (hp c _ w)) hy ?_
     exact YQ hall hns hF hp hn fuel _ st' _ w pr lam hk hs'
    ·exact h.elim
   ·refine ⟨fun h0=>(by rw [hr] at h0; cases h0),fun j hj=>?_⟩
    rw [hr] at hj
    have h:=h j hj
    unfold wpOp
    split at h
    ·rename_i o ho
     rw [ho]
     have hd:=hall j o ho
     rcases Y5.1 h with ⟨hg,h⟩ | ⟨hg,h⟩
     ·simp only
      rw [Zj hs hg]
      simp only [if_true]
      left
      exact ZB hd h F a w pr lam hF hs _ _ fun st' a' w' pr' lam' hk hs'=>YQ hall hns hF hp hn fuel _ st' a' w' pr' lam' hk hs'
     ·simp only
      rw [Zj hs hg]
      simp only [Bool.false_eq_true,if_false]
      exact YQ hall hns hF hp hn fuel _ _ _ w pr lam h (hs.putUn (by rw [hF]; exact yO hd))
    ·exact h.elim
theorem AWp.full (hm:P.follows .mixedOrders = true) {id:Nat} {ops:Array Oper} {st:St} {Q:Exit->St->Prop} (hall:ops.toList.all (Zr n') = true) (hns:Region.noSelect ops = true)
  (h:Y6 P ops ops.size (Array.replicate ops.size false) st (Q .normal)):AWp P n' (.region id ops true) st Q:=by
 intro F a w pr lam hF hs
 have key:(Code.region id ops true).wp P (fun ex a' w'=>ex = .normal/\∃ st' pr' lam',Q .normal st'/\zl P F st' a' w' pr' lam') a w:=by
  refine wp_region_any hm ?_
  exact YQ (fun i o ho=>List.all_eq_true.1 hall o (by simpa using Array.mem_of_getElem? ho)) hns hF (fun c a w q=>by cases q.1) (fun st' a' w' pr' lam' k r=>⟨rfl,st',pr',lam',k,r⟩) _ _ st a _ pr lam h hs.drew
 refine wp_mono key ?_
 rintro ex a' w' ⟨rfl,q⟩
 exact q
end
end Go.Eng
namespace Go.Eng
open Go.RowKit Go.WideMaps
theorem zf1 {k:IntKind} {n:Int} (h:k.wrap n = n):(Lit.int k n).wf = true:=by
 have:=wf_wrap k n
 rwa [h] at this
theorem KeyT.str {P:Program} {kt:TypeId} (hu:P.underlying kt = some .string):KeyT P kt:=by
 refine ⟨Maps.string_keyed hu,fun ag ks hk E v x ok hr=>?_⟩
 have e:keyT P kt = some (false,[.str]):=by simp [keyT,aggT,ZY,hu]
 rw [e] at hk; cases hk
 obtain ⟨h1,h2,h3⟩:=ok
 cases v <;> simp [isAgg] at h1 <;> simp [V.cellsL,Zw] at h3
 simp only [R] at hr
 obtain ⟨rfl,hr⟩:=hr
 exact ⟨_,keyOf_string_mk hu (by simpa [ByteArray.size] using hr)⟩
theorem KeyT.pair {P:Program} {kt e:TypeId} {q:IntKind} (A:ArrKey P kt e 2) (he:P.underlying e = some (.int q)) (hsz:∃ m,P.types.size = m + 1) (K:KeyLaw P kt) (hk0:keyT P kt = some (true,[.int q,.int q])):KeyT P kt:=by
 refine ⟨.of_law K,fun ag ks hk E v x ok hr=>?_⟩
 rw [hk0] at hk; cases hk
 obtain ⟨h1,h2,h3⟩:=ok
 cases v <;> simp [isAgg] at h1
 rename_i cs
 simp only [V.cellsL] at h3
 match cs,h3 with
 | [.int k0 a,.int k1 b],h3 =>
  simp only [Zw,and_true] at h3
  obtain ⟨⟨rfl,ha⟩,rfl,hb⟩:=h3
  simp only [R,RL] at hr
  obtain ⟨xs,rfl,hr,_⟩:=hr
  obtain ⟨y,ys,rfl,rfl,y1,ys1,rfl,rfl,rfl⟩:=hr
  exact ⟨_,keyOf_pair A he hsz (zf1 ha) (zf1 hb)⟩
def zhH {α β:Type} [DecidableEq α]:List (α × β)->α->Option β
 | [],_=>none
 | (a,b) :: m,k=>if a = k then some b else zhH m k
def zpq {α β:Type} [DecidableEq α]:List (α × β)->α->β->List (α × β)
 | [],k,v=>[(k,v)]
 | (a,b) :: m,k,v=>if a = k then (k,v) :: m else (a,b) :: zpq m k v
def zqG {α β:Type} [DecidableEq α]:List (α × β)->α->List (α × β)
 | [],_=>[]
 | (a,b) :: m,k=>if a = k then m else (a,b) :: zqG m k
def Y7 {α β:Type} (ek:α->V) (ev:β->V) (m:List (α × β)):List V:=m.map fun e=>.tup [ek e.1,ev e.2]
section
variable {α β:Type} [DecidableEq α] {ek:α->V} {ev:β->V}
theorem zf2 (hk:∀ a b,qm (ek a) (ek b) = decide (a = b)) (m:List (α × β)) (k:α):qU (Y7 ek ev m) (ek k) = (zhH m k).map ev:=by
 induction m with
 | nil=>rfl
 | cons e m ih =>
  obtain ⟨a,b⟩:=e
  show (if qm (ek a) (ek k) then some (ev b) else qU (Y7 ek ev m) (ek k)) = _
  rw [hk,ih]
  simp only [zhH,decide_eq_true_eq]
  split <;> rfl
theorem zf3 (hk:∀ a b,qm (ek a) (ek b) = decide (a = b)) (m:List (α × β)) (k:α) (v:β):ZC (Y7 ek ev m) (ek k) (ev v) = Y7 ek ev (zpq m k v):=by
 induction m with
 | nil=>rfl
 | cons e m ih =>
  obtain ⟨a,b⟩:=e
  show (if qm (ek a) (ek k) then .tup [ek k,ev v] :: Y7 ek ev m else .tup [ek a,ev b] :: ZC (Y7 ek ev m) (ek k) (ev v)) = _
  rw [hk,ih]
  simp only [zpq,decide_eq_true_eq]
  split <;> rfl
theorem zmU (hk:∀ a b,qm (ek a) (ek b) = decide (a = b)) (m:List (α × β)) (k:α):Y3 (Y7 ek ev m) (ek k) = Y7 ek ev (zqG m k):=by
 induction m with
 | nil=>rfl
 | cons e m ih =>
  obtain ⟨a,b⟩:=e
  show (if qm (ek a) (ek k) then Y7 ek ev m else .tup [ek a,ev b] :: Y3 (Y7 ek ev m) (ek k)) = _
  rw [hk,ih]
  simp only [zqG,decide_eq_true_eq]
  split <;> rfl
omit [DecidableEq α] in
theorem zar {ag:Bool} {ks:List CK} (m:List (α × β)) (h:∀ e ∈ m,Yu ag ks (ek e.1)):Z0 ag ks (Y7 ek ev m):=by
 induction m with
 | nil=>trivial
 | cons e m ih =>
  exact ⟨⟨ek e.1,ev e.2,rfl,h e (by simp)⟩,ih fun e' he=>h e' (by simp [he])⟩
end
end Go.Eng
