import Derived.Test.YtgpccllhdcggdaaGreatDoorE9N
import Derived.WideKeyEntry
import Derived.DeepKeys4
import Derived.OpenShut
open List renaming getElem?_eq_getElem -> zys
open List renaming mem_of_getElem? -> zyu
open Bool renaming and_eq_true -> zyL
open Option.some renaming injEq -> zyO
open Option renaming bind_some -> zyP
open List renaming length_append -> zyQ
open List renaming all_eq_true -> zyS
set_option linter.unusedSimpArgs false
set_option linter.unusedVariables false
namespace Go.Eng
open Go.RowKit
def InR (k:IntKind) (n:Int):Prop:=k.wrap n = n
theorem zde (n:Int) (h:-9223372036854775808 <= n/\n <= 9223372036854775807):InR .i64 n:=IntWalk.i64_in n h
def zuR (b:Bool) (A B:Prop):Prop:=(b = true->A)/\(b = false->B)
def zp1 (t:Bool) (a b:V):V :=
 match a,b with
 | .bool x,.bool y=>.bool (bif t then x else y)
 | a,b=>if t then a else b
theorem zlT (t:Bool) (a b:V):zp1 t a b = if t then a else b:=by
 unfold zp1
 split
 ·cases t <;> rfl
 ·rfl
def qB (P:Program) (t:TypeId):Option TypeId:=match P.underlying t with
 | some (.slice e)=>some e
 | _=>none
theorem yF {P:Program} {t e:TypeId} (h:qB P t = some e):P.underlying t = some (.slice e):=by
 unfold qB at h; split at h
 ·cases h; assumption
 ·cases h
def zfQ (P:Program) (t:TypeId):Option (Nat × TypeId):=match P.underlying t with
 | some (.array n e)=>some (n,e)
 | _=>none
theorem zap {P:Program} {t e:TypeId} {n:Nat} (h:zfQ P t = some (n,e)):P.underlying t = some (.array n e):=by
 unfold zfQ at h; split at h
 ·cases h; assumption
 ·cases h
inductive BK where | int (k:IntKind) | bool | str | other
def qK (P:Program) (t:TypeId):BK:=match P.underlying t with
 | some (.int k)=>.int k
 | some .bool=>.bool
 | some .string=>.str
 | _=>.other
theorem Qu {P:Program} {t:TypeId} {k:IntKind} (h:qK P t = .int k):P.underlying t = some (.int k):=by
 unfold qK at h; split at h <;> cases h; assumption
theorem zfa {P:Program} {t:TypeId} (h:qK P t = .bool):P.underlying t = some .bool:=by
 unfold qK at h; split at h <;> cases h; assumption
theorem Z6 {P:Program} {t:TypeId} (h:qK P t = .str):P.underlying t = some .string:=by
 unfold qK at h; split at h <;> cases h; assumption
def Qv (P:Program) (t:TypeId) (bx:Nat->Option Box) (x:V) (K:V->Prop):Prop :=
 match x,aggT P t with
 | .elt cs off,some true=>match sizeT P t with | some n=>off + n <= cs.length/\K (.agg ((cs.drop off).take n)) | none=>False
 | .elt cs off,some false=>match cs[off]? with | some c=>K c | none=>False
 | .loc i off,some true=>match bx i,sizeT P t with | some B,some n=>B.ty < 1000000000/\off + n <= B.cells.length/\K (.agg ((B.cells.drop off).take n)) | _,_=>False
 | .loc i off,some false=>match bx i with | some B=>B.ty < 1000000000/\(match B.cells[off]? with | some c=>K c | none=>False) | none=>False
 | _,_=>False
def zrX (op:BinOp) (k:IntKind) (a b:Int) (K:V->Prop):Prop :=
 match op with
 | .add=>InR k (a + b)/\K (.int k (a + b))
 | .sub=>InR k (a - b)/\K (.int k (a - b))
 | .mul=>InR k (a * b)/\K (.int k (a * b))
 | .quo=>b ≠ 0/\InR k (a.tdiv b)/\K (.int k (a.tdiv b))
 | .rem=>b ≠ 0/\K (.int k (a.tmod b))
 | .eql=>K (.bool (a == b))
 | .neq=>K (.bool (a != b))
 | .lss=>K (.bool (decide (a < b)))
 | .leq=>K (.bool (decide (a <= b)))
 | .gtr=>K (.bool (decide (b < a)))
 | .geq=>K (.bool (decide (b <= a)))
 | .and=>K (.int k (zcu .and k a b))
 | .or=>K (.int k (zcu .or k a b))
 | .xor=>K (.int k (zcu .xor k a b))
 | .andNot=>K (.int k (zcu .andNot k a b))
 | _=>False
def zrY (op:BinOp) (s t:List UInt8) (K:V->Prop):Prop :=
 match op with
 | .add=>s.length + t.length <= maxLen/\K (.str (s++t))
 | .eql=>K (.bool (s == t))
 | .neq=>K (.bool (!(s == t)))
 | .lss=>K (.bool (Op.bytesLess s t))
 | .leq=>K (.bool (Op.bytesLess s t || s == t))
 | .gtr=>K (.bool (!(Op.bytesLess s t || s == t)))
 | .geq=>K (.bool (!Op.bytesLess s t))
 | _=>False
def eqT (P:Program) (t:TypeId):Option (List CK) :=
 if P.eqGuardType P.depth t = false/\aggT P t = some true then Yl P 20 t else none
def Z2 (ks:List CK):List V->Prop
 | []=>ks = []
 | c :: cs=>match ks with
  | k :: ks=>Qb c = some k/\Z2 ks cs
  | []=>False
theorem Yk:∀ {cs:List V} {ks:List CK},Z2 ks cs->cs.map Qb = ks.map some
 | [],ks,h=>by simp only [Z2] at h; subst h; rfl
 | c :: cs,ks,h=>by
  cases ks with
  | nil=>simp only [Z2] at h
  | cons k ks=>simp only [Z2] at h; simp [h.1,Yk h.2]
def zwb (op:BinOp) (k:IntKind) (a b:Int) (K:V->Prop):Prop :=
 match op with
 | .shl=>0 <= b/\K (.int k (k.wrap (a * 2 ^ (min b.toNat k.bits))))
 | .shr=>0 <= b/\K (.int k (a.fdiv (2 ^ (min b.toNat k.bits))))
 | _=>False
def zfb (P:Program) (op:BinOp) (xT:TypeId) (a b:V) (K:V->Prop):Prop :=
 match a,b with
 | .int k x,.int k' y=>(k = k'/\zrX op k x y K) ∨ zwb op k x y K
 | .str s,.str t=>zrY op s t K
 | .bool x,.bool y=>match op,qK P xT with
  | .eql,.bool=>K (.bool (x == y))
  | .neq,.bool=>K (.bool (!(x == y)))
  | _,_=>False
 | .agg cs,.agg ds=>match op,eqT P xT with
  | .eql,some ks=>Z2 ks cs/\Z2 ks ds/\K (.bool (eqV cs ds))
  | .neq,some ks=>Z2 ks cs/\Z2 ks ds/\K (.bool (!eqV cs ds))
  | _,_=>False
 | _,_=>False
def zrZ (op:UnOp) (x:V) (K:V->Prop):Prop :=
 match op,x with
 | .not,.bool b=>K (.bool (!b))
 | .neg,.int k n=>InR k (0 - n)/\K (.int k (0 - n))
 | _,_=>False
def bytesOf:List V->Option (List UInt8)
 | []=>some []
 | .int .u8 n :: vs=>if 0 <= n/\n < 256 then (bytesOf vs).map (UInt8.ofNat n.toNat :: ·) else none
 | _ :: _=>none
def zbA (P:Program) (s d:TypeId) (x:V) (K:V->Prop):Prop :=
 match x,qK P s,qK P d with
 | .int _ n,.int _,.int k=>K (.int k (k.wrap n))
 | .str l,.str,.str=>K (.str l)
 | .str l,.str,.other=>match qB P d with
  | some e=>(match qK P e with | .int .u8=>K (.list (bytesV l)) | _=>False)
  | none=>False
 | .list rows,.other,.str=>match qB P s with
  | some e=>(match qK P e with | .int .u8=>∃ l,rows = bytesV l/\K (.str l) | _=>False)
  | none=>False
 | _,_,_=>False
def QT (st:St) (x:Option Operand) (d:Nat) (K:Nat->Prop):Prop :=
 match x with
 | none=>K d
 | some x=>match st.eval x with
  | .int _ i=>0 <= i/\K i.toNat
  | _=>False
theorem Zk {st:St} {x:Option Operand} {d:Nat} {K:Nat->Prop} (h:QT st x d K):∃ n,zac st.eval x d = some n/\K n:=by
 unfold QT at h
 split at h
 ·exact ⟨d,rfl,h⟩
 ·split at h
  ·rename_i k i hx
   exact ⟨i.toNat,by simp [zac,hx,h.1],h.2⟩
  ·exact h.elim
def zcI:Operand->Bool
 | .const (.int _ n)=>decide (n = 0)
 | _=>false
def zjX (hi:Operand) (d:Nat):Nat:=bif zcI hi then d else 1000000 + d
def Z3 (P:Program) (t:TypeId) (st:St) (x:V) (lo hi mx:Option Operand) (dst:Option Nat) (K:V->Option (Nat × TypeId)->Prop):Prop :=
 match x,mx with
 | .str s,none=>(match qK P t with
  | .str=>QT st lo 0 fun l=>QT st hi s.length fun h=>l <= h/\h <= s.length/\K (.str ((s.take h).drop l)) none
  | _=>False)
 | .list rows,none=>(match qB P t with
  | some e=>(match sizeT P e with
   | some n=>qL n rows/\QT st lo 0 fun l=>QT st hi rows.length fun h=>l <= h/\h <= rows.length/\K (.list ((rows.take h).drop l)) none
   | none=>False)
  | none=>False)
 | .list rows,some m=>(match qB P t,hi with
  | some e,some hi=>(match sizeT P e with
   | some n=>qL n rows/\QT st lo 0 fun l=>QT st (some hi) rows.length fun h=>QT st (some m) rows.length fun h'=>h' = h/\l <= h/\h <= rows.length/\K (.list ((rows.take h).drop l)) (some (zjX hi (dst.getD 0),e))
   | none=>False)
  | _,_=>False)
 | .elt cs off,none=>(match lo,hi,zfQ P t with
  | none,none,some (k,e)=>(match sizeT P e with
   | some n=>off + k * n <= cs.length/\k <= maxLen/\0 < k/\(K (.list (YZ n k (cs.drop off))) none ∨ (n = 1/\K (.list ((cs.drop off).take k)) none))
   | none=>False)
  | _,_,_=>False)
 | _,_=>False
def zf9 (P:Program) (s:TypeId) (i:Nat) (x:V) (K:V->Prop):Prop :=
 match fieldT P s i with
 | some (off,t)=>(match sizeT P t with
  | some n=>n ≠ 0/\(match x with
   | .loc j a=>K (.loc j (a + off))
   | .elt cs a=>K (.elt cs (a + off))
   | _=>False)
  | none=>False)
 | none=>False
def zdf (P:Program) (s:TypeId) (i:Nat) (x:V) (K:V->Prop):Prop :=
 match fieldT P s i,x with
 | some (off,t),.agg cs=>(match aggT P t,sizeT P t with
  | some true,some n=>K (.agg ((cs.drop off).take n))
  | some false,_=>(match cs[off]? with | some c=>K c | none=>False)
  | _,_=>False)
 | _,_=>False
def Qe (P:Program) (t:TypeId) (x i:V) (K:V->Prop):Prop :=
 match x,i with
 | .list rows,.int _ i=>(match qB P t with
  | some e=>(match sizeT P e with
   | some n=>qL n rows/\(0 <= i/\i < rows.length)/\K (.elt (rows.getD i.toNat .any).cellsL 0)
   | none=>False)
  | none=>False)
 | .loc j a,.int _ i=>(match zfQ P t with
  | some (len,e)=>(match sizeT P e with | some n=>(0 <= i/\i < (len:Int))/\K (.loc j (a + i.toNat * n)) | none=>False)
  | none=>False)
 | .elt cs a,.int _ i=>(match zfQ P t with
  | some (len,e)=>(match sizeT P e with | some n=>(0 <= i/\i < (len:Int))/\K (.elt cs (a + i.toNat * n)) | none=>False)
  | none=>False)
 | _,_=>False
def zaJ (P:Program) (t:TypeId) (x i:V) (K:V->Prop):Prop :=
 match x,i with
 | .str s,.int _ i=>(match qK P t with
  | .str=>(0 <= i/\i < s.length)/\K (.int .u8 (s.getD i.toNat 0).toNat)
  | _=>False)
 | .agg cs,.int _ i=>(match zfQ P t with
  | some (len,e)=>(match aggT P e,sizeT P e with
   | some false,some n=>(0 <= i/\i < (len:Int))/\(match cs[i.toNat * n]? with | some c=>K c | none=>False)
   | _,_=>False)
  | none=>False)
 | _,_=>False
def zga (P:Program) (t:TypeId) (st:St) (parts:List (Nat × Operand)) (K:V->Prop):Prop :=
 match zeroT P t,zgf P t with
 | some zv,some place=>zv.csize.isSome = true/\(match zfg place zv.cellsL (parts.map fun x=>(x.1,st.eval x.2)) with
  | some out=>K (.agg out)
  | none=>False)
 | _,_=>False
def zlU:List (Nat × Operand)->Nat->Bool
 | [],_=>true
 | (i,_) :: r,n=>i == n && zlU r (n + 1)
theorem zgu:∀ {l:List (Nat × Operand)} {n:Nat},zlU l n = true->l.map (·.1) = List.range' n l.length
 | [],_,_=>rfl
 | (i,_) :: r,n,h=>by
  simp only [zlU,zyL,beq_iff_eq] at h
  simp [List.range'_succ,h.1,zgu h.2]
def zdg (P:Program) (t:TypeId) (st:St) (len:Nat) (parts:List (Nat × Operand)) (dst:Option Nat) (K:V->Option (Nat × TypeId)->Prop):Prop :=
 match qB P t with
 | some e=>(match sizeT P e,zeroT P e with
  | some sz,some zv=>(sz ≠ 0/\zv.csize = some sz/\parts.length = len/\len * sz <= 16777216/\zlU parts 0 = true)/\qL sz (parts.map fun x=>st.eval x.2)/\K (.list (parts.map fun x=>st.eval x.2)) (some (dst.getD 0,e))
  | _,_=>False)
 | none=>False
def zi4 (x:V) (K:V->Prop):Prop :=
 match x with
 | .loc i off=>K (.loc i off)
 | .elt cs off=>K (.elt cs off)
 | _=>False
def zjY (P:Program) (t:TypeId):Bool:=match P.underlying t with
 | some (.interface _)=>false
 | some _=>true
 | none=>false
def zi5 (P:Program) (t:TypeId) (x:V) (K:V->Prop):Prop :=
 match x with
 | .list rows=>(match qB P t with | some _=>K (.int .i64 rows.length) | none=>False)
 | .str s=>(match qK P t with | .str=>K (.int .i64 s.length) | _=>False)
 | _=>False
def znQ (P:Program) (f:FuncId) (args:List V) (K:V->Prop):Prop:=zbH P f = true/\V.noLocL args = true/\∃ res,Fn P f args [] res []/\K res
def Ql (P:Program) (b:Builtin) (args:List V) (tys:List TypeId) (K:V->Prop):Prop :=
 match b,args,tys with
 | .len,[x],[t]=>zi5 P t x K
 | .max,[.int k a,.int k' b],[_,_]=>k = k'/\K (.int k (max a b))
 | .min,[.int k a,.int k' b],[_,_]=>k = k'/\K (.int k (min a b))
 | _,_,_=>False
def zdh (P:Program) (o:Oper) (st:St) (x:Operand) (K:V->Option (Nat × TypeId)->Prop):Prop :=
 match x with
 | .const (.slice none 0 0)=>(match qB P o.type with
  | some e=>K (.list []) (some (o.dst.getD 0,e))
  | none=>K (.list []) none)
 | x=>K (st.eval x) (st.tokOf x)
def zdi (P:Program) (t:TypeId) (bx:Nat->Option Box) (m x:V) (ok:Bool) (K:V->Prop):Prop :=
 match m,mapT P t with
 | .mref i,some (kt,et)=>(match bx i,keyT P kt,zeroT P et with
  | some B,some (ag,ks),some zv=>1000000000 <= B.ty/\KeyT P kt/\zbo ag ks x/\zaL ag ks B.cells /\
    K (if ok then .tup [(Z7 B.cells x).getD zv,.bool (Z7 B.cells x).isSome] else (Z7 B.cells x).getD zv)
  | _,_,_=>False)
 | _,_=>False
def Zh (P:Program) (o:Oper) (st:St) (K:V->Option (Nat × TypeId)->Prop):Prop :=
 match o.op with
 | .move x=>K (st.eval x) (st.tokOf x)
 | .assign x=>zdh P o st x K
 | .pick c x y=>(match st.eval c with | .bool t=>K (zp1 t (st.eval x) (st.eval y)) none | _=>False)
 | .load t x=>Qv P t st.box (st.eval x) (K · none)
 | .binOp op xT x y _=>zfb P op xT (st.eval x) (st.eval y) (K · none)
 | .unOp op _ x=>zrZ op (st.eval x) (K · none)
 | .convert s d x=>zbA P s d (st.eval x) (K · none)
 | .makeInterface t x=>zjY P t = true/\K (.iface t (st.eval x)) none
 | .makeFunc f first cap=>K (.fn f (first.toList.map st.eval) (cap.toList.map st.eval)) none
 | .slice t x lo hi mx=>Z3 P t st (st.eval x) lo hi mx o.dst K
 | .fieldAddr s x i=>zf9 P s i (st.eval x) (K · none)
 | .field s x i=>zdf P s i (st.eval x) (K · none)
 | .indexAddr t x i=>Qe P t (st.eval x) (st.eval i) (K · none)
 | .index t x i=>zaJ P t (st.eval x) (st.eval i) (K · none)
 | .extract x i=>(match st.eval x with | .tup vs=>(match vs[i]? with | some v=>K v none | none=>False) | _=>False)
 | .build t parts=>zga P t st parts.toList (K · none)
 | .buildSlice t len parts=>zdg P t st len parts.toList o.dst K
 | .nilCheck x=>zi4 (st.eval x) (K · none)
 | .lookup t m x ok=>zdi P t st.box (st.eval m) (st.eval x) ok (K · none)
 | .call { callee:=.value f,args,.. }=>(match st.eval f with
  | .fn (.func g) first cap=>znQ P g (first++args.toList.map st.eval++cap) (K · none)
  | _=>False)
 | .call { callee:=.builtin b,args,argTypes }=>Ql P b (args.toList.map st.eval) argTypes.toList (K · none)
 | _=>False
def QVT (P:Program) (o:Oper) (ρ:Operand->V) (τ:Operand->Option (Nat × TypeId)) (bx:Nat->Option Box) (v:V) (tk:Option (Nat × TypeId)):Prop :=
 (∃ fr,QV P o ρ bx v fr/\tk = none) ∨ ∃ x,(o.op = .move x ∨ o.op = .assign x)/\v = ρ x/\tk = τ x
def yr (o:Oper):Bool:=match o.op with
 | .move _=>true
 | .assign (.const (.slice none 0 0))=>false
 | .assign _=>true
 | _=>false
def QVF (P:Program) (o:Oper) (ρ:Operand->V) (τ:Operand->Option (Nat × TypeId)) (bx:Nat->Option Box) (v:V) (tk:Option (Nat × TypeId)):Prop :=
 (yr o = false/\∃ fr,QV P o ρ bx v fr/\∀ t e,tk = some (t,e)->fr = some (tcl t,e)) ∨ (yr o = true/\∃ x,(o.op = .move x ∨ o.op = .assign x)/\v = ρ x/\tk = τ x)
theorem QVF.of {P:Program} {o:Oper} {ρ:Operand->V} {τ:Operand->Option (Nat × TypeId)} {bx:Nat->Option Box} {v:V} (h:QV P o ρ bx v none) (hc:yr o = false):QVF P o ρ τ bx v none :=
 .inl ⟨hc,none,h,fun _ _ h=>by cases h⟩
theorem QVF.weak {P:Program} {o:Oper} {ρ:Operand->V} {τ:Operand->Option (Nat × TypeId)} {bx:Nat->Option Box} {v:V} {tk:Option (Nat × TypeId)} (h:QVF P o ρ τ bx v tk) :
  QVT P o ρ τ bx v (if yr o = true then tk else none):=by
 rcases h with ⟨hc,fr,hq,_⟩ | ⟨hc,x,hx,rfl,rfl⟩
 ·rw [if_neg (by rw [hc]; simp)]; exact .inl ⟨fr,hq,rfl⟩
 ·rw [if_pos hc]; exact .inr ⟨x,hx,rfl,rfl⟩
theorem zdj {P:Program} {o:Oper} {ρ:Operand->V} {bx:Nat->Option Box} (ho:o.op = .assign (.const (.slice none 0 0))) (e:TypeId):QV P o ρ bx (.list []) (some (0,e)) :=
 QV.of_run fun a w pr lam _ _ _=>by
  refine ⟨.slice none 0 0,w,pr,by simp [execOp,ho,Act.eval],Ext.refl w pr,?_,fun _ _ hce=>by cases hce; exact ⟨by omega,Own.full⟩⟩
  simp only [R]
  exact ⟨none,0,rfl,Nat.le_refl _,by simp [maxLen],.inl ⟨trivial,rfl⟩⟩
section
variable {P:Program} {o:Oper} {st:St}
theorem zjZ {t:TypeId} {x:Operand} {K:V->Prop} (ho:o.op = .load t x) (h:Qv P t st.box (st.eval x) K):∃ v,QV P o st.eval st.box v none/\K v:=by
 unfold Qv at h
 split at h
 ·rename_i cs off hx ha
  split at h
  ·rename_i n hs; exact ⟨_,zfU ho hx ha hs h.1,h.2⟩
  ·exact h.elim
 ·rename_i cs off hx ha
  split at h
  ·rename_i c hc; exact ⟨_,zfV ho hx ha hc,h⟩
  ·exact h.elim
 ·rename_i i off hx ha
  split at h
  ·rename_i B n hb hs; exact ⟨_,zfW ho hx hb ha hs h.2.1 h.1,h.2.2⟩
  ·exact h.elim
 ·rename_i i off hx ha
  split at h
  ·rename_i B hb
   obtain ⟨hpl,h⟩:=h
   split at h
   ·rename_i c hc; exact ⟨_,zfX ho hx hb ha hc hpl,h⟩
   ·exact h.elim
  ·exact h.elim
 ·exact h.elim
theorem zlV {op:BinOp} {xT yT:TypeId} {x y:Operand} {K:V->Prop} (ho:o.op = .binOp op xT x y yT) (h:zfb P op xT (st.eval x) (st.eval y) K):∃ v,QV P o st.eval st.box v none/\K v:=by
 unfold zfb at h
 split at h
 ·rename_i k a k' b hx hy
  rcases h with h | h
  rotate_left
  ·unfold zwb at h
   split at h
   ·exact ⟨_,zi9 ho hx hy (by unfold shI; rw [if_neg (by omega)]),h.2⟩
   ·exact ⟨_,zi9 ho hx hy (by unfold shI; rw [if_neg (by omega)]),h.2⟩
   ·exact h.elim
  obtain ⟨rfl,h⟩:=h
  have key:∀ v,zsf op k a b = some v->K v->∃ v,QV P o st.eval st.box v none/\K v:=fun v hv hk=>⟨v,zn5 ho hx hy hv,hk⟩
  cases op <;> simp only [zrX] at h
  case add=>exact key (.int k (k.wrap (a + b))) rfl (by have:=h.1; unfold InR at this; rw [this]; exact h.2)
  case sub=>exact key (.int k (k.wrap (a - b))) rfl (by have:=h.1; unfold InR at this; rw [this]; exact h.2)
  case mul=>exact key (.int k (k.wrap (a * b))) rfl (by have:=h.1; unfold InR at this; rw [this]; exact h.2)
  case quo=>exact key (.int k (k.wrap (a.tdiv b))) (by simp only [zsf,if_neg h.1]) (by have:=h.2.1; unfold InR at this; rw [this]; exact h.2.2)
  case rem=>exact key (.int k (a.tmod b)) (by simp only [zsf,if_neg h.1]) h.2
  all_goals first | exact h.elim | exact key _ rfl h
 ·rename_i s t hx hy
  have key:∀ v,zuX op s t = some v->K v->∃ v,QV P o st.eval st.box v none/\K v:=fun v hv hk=>⟨v,zn6 ho hx hy hv,hk⟩
  cases op <;> simp only [zrY] at h
  case add=>exact key _ (by simp only [zuX,if_pos h.1]) h.2
  all_goals first | exact h.elim | exact key _ rfl h
 ·rename_i a b hx hy
  split at h
  ·rename_i hT; exact ⟨_,zff ho hx hy (zfa hT) rfl,h⟩
  ·rename_i hT; exact ⟨_,zff ho hx hy (zfa hT) rfl,h⟩
  ·exact h.elim
 ·rename_i cs ds hx hy
  have key:∀ ks,eqT P xT = some ks->P.eqGuardType P.depth xT = false/\aggT P xT = some true/\Yl P 20 xT = some ks:=by
   intro ks hk
   unfold eqT at hk
   split at hk
   ·rename_i hc; exact ⟨hc.1,hc.2,hk⟩
   ·cases hk
  split at h
  ·rename_i ks hT
   obtain ⟨k1,k2,k3⟩:=key ks hT
   exact ⟨_,zgP ho hx hy k1 k2 k3 (Yk h.1) (Yk h.2.1) rfl,h.2.2⟩
  ·rename_i ks hT
   obtain ⟨k1,k2,k3⟩:=key ks hT
   exact ⟨_,zgP ho hx hy k1 k2 k3 (Yk h.1) (Yk h.2.1) rfl,h.2.2⟩
  ·exact h.elim
 ·exact h.elim
theorem ziq {t:TypeId} {x:Operand} {lo hi mx:Option Operand} {K:V->Option (Nat × TypeId)->Prop} (hsm:∀ d,o.dst = some d->d < 1000000) (ho:o.op = .slice t x lo hi mx) (h:Z3 P t st (st.eval x) lo hi mx o.dst K) :
  ∃ v tk,QVF P o st.eval st.tokOf st.box v tk/\K v tk:=by
 have hcp:yr o = false:=by simp [yr,ho]
 have hdc:∀ hi,tcl (zjX hi (o.dst.getD 0)) = (bif zcI hi then 0 else 1):=fun hi=>by
  unfold tcl zjX
  cases hq:o.dst with
  | none=>cases zcI hi <;> simp
  | some d=>have:=hsm d hq; cases zcI hi <;> simp <;> omega
 unfold Z3 at h
 split at h
 ·rename_i s hx
  split at h
  ·rename_i hT
   obtain ⟨l,hl,h⟩:=Zk h
   obtain ⟨hh,hl2,h1,h2,h3⟩:=Zk h
   exact ⟨_,none,.of (zkb ho hx (Z6 hT) hl hl2 h1 h2) hcp,h3⟩
  ·exact h.elim
 ·rename_i rows hx
  split at h
  ·rename_i e hT
   split at h
   ·rename_i n hs
    obtain ⟨hr,h⟩:=h
    obtain ⟨l,hl,h⟩:=Zk h
    obtain ⟨hh,hl2,h1,h2,h3⟩:=Zk h
    exact ⟨_,none,.of (ziv ho hx (yF hT) hs hr hl hl2 h1 h2) hcp,h3⟩
   ·exact h.elim
  ·exact h.elim
 ·rename_i rows m hx
  split at h
  ·rename_i e hi' hT
   split at h
   ·rename_i n hs
    obtain ⟨hr,h⟩:=h
    obtain ⟨l,hl,h⟩:=Zk h
    obtain ⟨hh,hl2,h⟩:=Zk h
    obtain ⟨h',hl3,rfl,h1,h2,h3⟩:=Zk h
    refine ⟨_,_,.inl ⟨hcp,some (_,e),zgJ (c0:=bif zcI hi' then 0 else 1) ?_ ho hx (yF hT) hs hr hl hl2 hl3 h1 h2,fun t e' he=>by cases he; rw [hdc]⟩,h3⟩
    cases hz:zcI hi' with
    | false=>exact .inl rfl
    | true =>
     refine .inr ⟨rfl,?_⟩
     unfold zcI at hz
     split at hz
     ·simp only [decide_eq_true_eq] at hz
      subst hz
      simp [zac,St.eval,Zd,YC] at hl2
      omega
     ·cases hz
   ·exact h.elim
  ·exact h.elim
 ·rename_i cs off hx
  split at h
  ·rename_i k e hT
   split at h
   ·rename_i n hs
    obtain ⟨h1,h2,h3,h4⟩:=h
    rcases h4 with h4 | ⟨rfl,h4⟩
    ·exact ⟨_,none,.of (zka ho hx (zap hT) hs h1 h2 h3) hcp,h4⟩
    ·exact ⟨_,none,.of (ziw ho hx (zap hT) hs (by simpa using h1) h2 h3) hcp,h4⟩
   ·exact h.elim
  ·exact h.elim
 ·exact h.elim
theorem zir {t:TypeId} {x ix:Operand} {K:V->Prop} (ho:o.op = .indexAddr t x ix) (h:Qe P t (st.eval x) (st.eval ix) K):∃ v,QV P o st.eval st.box v none/\K v:=by
 unfold Qe at h
 split at h
 ·rename_i rows k i hx hi
  split at h
  ·rename_i e hT
   split at h
   ·rename_i n hs
    obtain ⟨hr,⟨h0,h1⟩,hk⟩:=h
    have hlt:i.toNat < rows.length:=by omega
    have hg:rows[i.toNat]? = some (rows.getD i.toNat .any):=by simp [List.getD,zys hlt]
    exact ⟨_,zdn ho hx hi (yF hT) hs hr h0 hg,hk⟩
   ·exact h.elim
  ·exact h.elim
 ·rename_i j a k i hx hi
  split at h
  ·rename_i len e hT
   split at h
   ·rename_i n hs; exact ⟨_,zem ho hx hi (zap hT) hs h.1.1 h.1.2,h.2⟩
   ·exact h.elim
  ·exact h.elim
 ·rename_i cs a k i hx hi
  split at h
  ·rename_i len e hT
   split at h
   ·rename_i n hs; exact ⟨_,zen ho hx hi (zap hT) hs h.1.1 h.1.2,h.2⟩
   ·exact h.elim
  ·exact h.elim
 ·exact h.elim
theorem zis {t:TypeId} {x ix:Operand} {K:V->Prop} (ho:o.op = .index t x ix) (h:zaJ P t (st.eval x) (st.eval ix) K):∃ v,QV P o st.eval st.box v none/\K v:=by
 unfold zaJ at h
 split at h
 ·rename_i s k i hx hi
  split at h
  ·rename_i hT
   obtain ⟨⟨h0,h1⟩,hk⟩:=h
   have hlt:i.toNat < s.length:=by omega
   have hg:s[i.toNat]? = some (s.getD i.toNat 0):=by simp [List.getD,zys hlt]
   exact ⟨_,zj9 ho hx hi (Z6 hT) h0 hg,hk⟩
  ·exact h.elim
 ·rename_i cs k i hx hi
  split at h
  ·rename_i len e hT
   split at h
   ·rename_i n ha hs
    obtain ⟨⟨h0,h1⟩,hk⟩:=h
    split at hk
    ·rename_i c hc; exact ⟨_,zeo ho hx hi (zap hT) ha hs h0 h1 hc,hk⟩
    ·exact hk.elim
   ·exact h.elim
  ·exact h.elim
 ·exact h.elim
theorem zit {s:TypeId} {x:Operand} {i:Nat} {K:V->Prop} (ho:o.op = .field s x i) (h:zdf P s i (st.eval x) K):∃ v,QV P o st.eval st.box v none/\K v:=by
 unfold zdf at h
 split at h
 ·rename_i off t cs hf hx
  split at h
  ·rename_i n ha hs; exact ⟨_,zkc ho hx hf ha hs,h⟩
  ·rename_i ha
   split at h
   ·rename_i c hc; exact ⟨_,zkd ho hx hf ha hc,h⟩
   ·exact h.elim
  ·exact h.elim
 ·exact h.elim
theorem zj0 {s d:TypeId} {x:Operand} {K:V->Prop} (ho:o.op = .convert s d x) (h:zbA P s d (st.eval x) K):∃ v,QV P o st.eval st.box v none/\K v:=by
 unfold zbA at h
 split at h
 ·rename_i k n k1 k2 hx hs hd
  exact ⟨_,zl5 ho hx (Qu hs) (Qu hd),h⟩
 ·rename_i l hx hs hd; exact ⟨_,zl6 ho hx (Z6 hs) (Z6 hd),h⟩
 ·rename_i l hx hs hd
  split at h
  ·rename_i e hT
   split at h
   ·rename_i he; exact ⟨_,zdp ho hx (Z6 hs) (yF hT) (Qu he),h⟩
   ·exact h.elim
  ·exact h.elim
 ·rename_i rows hx hs hd
  split at h
  ·rename_i e hT
   split at h
   ·rename_i he
    obtain ⟨l,rfl,h⟩:=h
    exact ⟨_,zdq ho hx (yF hT) (Qu he) (Z6 hd),h⟩
   ·exact h.elim
  ·exact h.elim
 ·exact h.elim
theorem zfc {K:V->Option (Nat × TypeId)->Prop} (hsm:∀ d,o.dst = some d->d < 1000000) (h:Zh P o st K):∃ v tk,QVF P o st.eval st.tokOf st.box v tk/\K v tk:=by
 have hdc:tcl (o.dst.getD 0) = 0:=by
  unfold tcl
  cases hq:o.dst with
  | none=>simp
  | some d=>have:=hsm d hq; simp; omega
 have one':yr o = false->(∃ v,QV P o st.eval st.box v none/\K v none)->∃ v tk,QVF P o st.eval st.tokOf st.box v tk/\K v tk:=fun hc ⟨v,q,k⟩=>⟨v,none,.of q hc,k⟩
 unfold Zh at h
 split at h
 ·rename_i x ho; exact ⟨_,_,.inr ⟨by simp [yr,ho],x,.inl ho,rfl,rfl⟩,h⟩
 ·rename_i x ho
  unfold zdh at h
  split at h
  ·split at h
   ·rename_i e hT; exact ⟨_,_,.inl ⟨by simp [yr,ho],some (0,e),zdj ho e,fun t e' he=>by cases he; rw [hdc]⟩,h⟩
   ·exact ⟨_,none,.inl ⟨by simp [yr,ho],some (0,0),zdj ho 0,fun t e' he=>by cases he⟩,h⟩
  ·rename_i hne
   refine ⟨_,_,.inr ⟨?_,x,.inr ho,rfl,rfl⟩,h⟩
   unfold yr
   rw [ho]
   split
   ·rfl
   ·rename_i heq; cases heq; exact absurd rfl hne
   ·rfl
   ·rename_i hn2; exact absurd rfl (hn2 x)
 ·rename_i c x y ho
  split at h
  ·rename_i t hc
   refine one' (by simp [yr, *]) ⟨_,zuW ho hc,?_⟩
   rw [<- zlT]; exact h
  ·exact h.elim
 ·rename_i ho; exact one' (by simp [yr, *]) (zjZ ho h)
 ·rename_i ho; exact one' (by simp [yr, *]) (zlV ho h)
 ·rename_i op xT x ho
  unfold zrZ at h
  split at h
  ·rename_i b hx; exact one' (by simp [yr, *]) ⟨_,zwg ho hx,h⟩
  ·rename_i k n hx; exact one' (by simp [yr, *]) ⟨_,zwh ho hx,by have:=h.1; unfold InR at this; rw [this]; exact h.2⟩
  ·exact h.elim
 ·rename_i ho; exact one' (by simp [yr, *]) (zj0 ho h)
 ·rename_i t x ho
  obtain ⟨h1,h2⟩:=h
  unfold zjY at h1
  split at h1
  ·cases h1
  ·rename_i d hne hu
   exact one' (by simp [yr, *]) ⟨_,zj8 ho hu (by cases d <;> first | rfl | exact absurd rfl (hne _)),h2⟩
  ·cases h1
 ·rename_i f first cap ho; exact one' (by simp [yr, *]) ⟨_,zl7 ho,h⟩
 ·rename_i ho; exact ziq hsm ho h
 ·rename_i s x i ho
  unfold zf9 at h
  split at h
  ·rename_i off t hf
   split at h
   ·rename_i n hs
    obtain ⟨hn,h⟩:=h
    split at h
    ·rename_i j a hx; exact one' (by simp [yr, *]) ⟨_,zek ho hx hf hs hn,h⟩
    ·rename_i cs a hx; exact one' (by simp [yr, *]) ⟨_,zel ho hx hf hs hn,h⟩
    ·exact h.elim
   ·exact h.elim
  ·exact h.elim
 ·rename_i ho; exact one' (by simp [yr, *]) (zit ho h)
 ·rename_i ho; exact one' (by simp [yr, *]) (zir ho h)
 ·rename_i ho; exact one' (by simp [yr, *]) (zis ho h)
 ·rename_i x i ho
  split at h
  ·rename_i vs hx
   split at h
   ·rename_i v hv; exact one' (by simp [yr, *]) ⟨_,zn7 ho hx hv,h⟩
   ·exact h.elim
  ·exact h.elim
 ·rename_i t parts ho
  unfold zga at h
  split at h
  ·rename_i zv place hz hp
   obtain ⟨hn,h⟩:=h
   obtain ⟨n,hn⟩:=Option.isSome_iff_exists.1 hn
   split at h
   ·rename_i out hf; exact one' (by simp [yr, *]) ⟨_,zsh ho hz hn hp hf,h⟩
   ·exact h.elim
  ·exact h.elim
 ·rename_i t len parts ho
  unfold zdg at h
  split at h
  ·rename_i e hT
   split at h
   ·rename_i sz zv hs hz
    obtain ⟨⟨h1,h2,h3,h4,h5⟩,h6,h7⟩:=h
    refine ⟨_,_,.inl ⟨by simp [yr,ho],some (0,e),zix ho (yF hT) hs h1 hz h2 (by simpa using h3) h4 ?_ h6,fun t e' he=>by cases he; rw [hdc]⟩,h7⟩
    rw [zgu h5,List.range_eq_range',h3]
   ·exact h.elim
  ·exact h.elim
 ·rename_i x ho
  unfold zi4 at h
  split at h
  ·rename_i i off hx; exact one' (by simp [yr, *]) ⟨_,zfY ho hx,h⟩
  ·rename_i cs off hx; exact one' (by simp [yr, *]) ⟨_,zfZ ho hx,h⟩
  ·exact h.elim
 ·rename_i t m x ok ho
  unfold zdi at h
  split at h
  ·rename_i i kt et hm hT
   split at h
   ·rename_i B ag ks zv hb hk hz
    exact one' (by simp [yr, *]) ⟨_,zqW ho hm hb h.1 hT hk h.2.1 h.2.2.1 h.2.2.2.1 hz,h.2.2.2.2⟩
   ·exact h.elim
  ·exact h.elim
 ·rename_i f args tys ho
  split at h
  ·rename_i g first cap hx
   obtain ⟨h1,h2,res,h3,h4⟩:=h
   exact one' (by simp [yr, *]) ⟨res,zkf ho hx h1 h2 h3,h4⟩
  ·exact h.elim
 ·rename_i b args tys ho
  unfold Ql at h
  split at h
  ·rename_i x t ha ht
   have ea:∃ y,args = #[y]/\st.eval y = x:=by
    obtain ⟨l⟩:=args
    match l,ha with
    | [y],ha=>simp at ha; exact ⟨y,rfl,ha⟩
   have et:tys = #[t]:=by obtain ⟨l⟩:=tys; simpa using ht
   obtain ⟨y,rfl,hy⟩:=ea
   subst et
   unfold zi5 at h
   split at h
   ·split at h
    ·rename_i e hT; exact one' (by simp [yr, *]) ⟨_,zl8 ho hy (yF hT),h⟩
    ·exact h.elim
   ·split at h
    ·rename_i hT; exact one' (by simp [yr, *]) ⟨_,zn8 ho hy (Z6 hT),h⟩
    ·exact h.elim
   ·exact h.elim
  ·rename_i k a k' b t u ha ht
   obtain ⟨rfl,h⟩:=h
   have ea:∃ y z,args = #[y,z]/\st.eval y = .int k a/\st.eval z = .int k b:=by
    obtain ⟨l⟩:=args
    match l,ha with
    | [y,z],ha=>simp at ha; exact ⟨y,z,rfl,ha⟩
    | [],ha=>simp at ha
    | [_],ha=>simp at ha
    | _ :: _ :: _ :: _,ha=>simp at ha
   have et:tys = #[t,u]:=by obtain ⟨l⟩:=tys; simpa using ht
   obtain ⟨y,z,rfl,hy,hz⟩:=ea
   subst et
   exact one' (by simp [yr, *]) ⟨_,zwi ho hy hz,h⟩
  ·rename_i k a k' b t u ha ht
   obtain ⟨rfl,h⟩:=h
   have ea:∃ y z,args = #[y,z]/\st.eval y = .int k a/\st.eval z = .int k b:=by
    obtain ⟨l⟩:=args
    match l,ha with
    | [y,z],ha=>simp at ha; exact ⟨y,z,rfl,ha⟩
    | [],ha=>simp at ha
    | [_],ha=>simp at ha
    | _ :: _ :: _ :: _,ha=>simp at ha
   have et:tys = #[t,u]:=by obtain ⟨l⟩:=tys; simpa using ht
   obtain ⟨y,z,rfl,hy,hz⟩:=ea
   subst et
   exact one' (by simp [yr, *]) ⟨_,zwj ho hy hz,h⟩
  ·exact h.elim
 ·exact h.elim
end
end Go.Eng
namespace Go.Eng
open Go.RowKit
mutual
def V.flat:V->Bool
 | .list rows=>rows.isEmpty
 | .elt cs _=>cs.isEmpty
 | .agg cs=>V.flatL cs
 | .tup cs=>V.flatL cs
 | .fn _ a b=>V.flatL a && V.flatL b
 | .iface _ v=>v.flat
 | _=>true
def V.flatL:List V->Bool
 | []=>true
 | c :: cs=>c.flat && V.flatL cs
end
mutual
theorem R.flat {w w':World} {pr pr':Nat->Nat->Prop} {lam:Nat->Option Nat}:∀ (v:V) (x:Value),v.flat = true->R ⟨w,pr,lam⟩ v x->R ⟨w',pr',lam⟩ v x
 | .any,_,_,_=>by simp [R]
 | .un,_,_,q=>by simpa [R] using q
 | .int _ _,_,_,q=>by simpa [R] using q
 | .bool _,_,_,q=>by simpa [R] using q
 | .str _,_,_,q=>by simpa [R] using q
 | .agg cs,_,n,q=>by
  simp only [V.flat] at n; simp only [R] at q ⊢
  obtain ⟨xs,e,q,q1⟩:=q
  exact ⟨xs,e,RL.flat cs xs n q,q1⟩
 | .tup cs,_,n,q=>by
  simp only [V.flat] at n; simp only [R] at q ⊢
  obtain ⟨xs,e,q⟩:=q
  exact ⟨xs,e,RL.flat cs xs n q⟩
 | .loc _ _,_,_,q=>by simpa [R] using q
 | .elt cs off,_,n,q=>by
  simp only [V.flat,List.isEmpty_iff] at n; subst n
  simp only [R,RC,and_true] at q ⊢
  exact q
 | .nilp,_,_,q=>by simpa [R] using q
 | .list rows,_,n,q=>by
  simp only [V.flat,List.isEmpty_iff] at n; subst n
  simp only [R,RR,and_true] at q ⊢
  exact q
 | .fn _ a b,_,n,q=>by
  simp only [V.flat,zyL] at n; simp only [R] at q ⊢
  obtain ⟨xs,ys,e,q1,q2⟩:=q
  exact ⟨xs,ys,e,RL.flat a xs n.1 q1,RL.flat b ys n.2 q2⟩
 | .nilfn,_,_,q=>by simpa [R] using q
 | .iface _ v,_,n,q=>by
  simp only [V.flat] at n; simp only [R] at q ⊢
  obtain ⟨y,e,q⟩:=q
  exact ⟨y,e,R.flat v y n q⟩
 | .nilif,_,_,q=>by simpa [R] using q
 | .mref _,_,_,q=>by simpa [R] using q
 | .nilm,_,_,q=>by simpa [R] using q
 | .ptr _,_,_,q=>by simpa [R] using q
theorem RL.flat {w w':World} {pr pr':Nat->Nat->Prop} {lam:Nat->Option Nat}:∀ (cs:List V) (xs:List Value),V.flatL cs = true->RL ⟨w,pr,lam⟩ cs xs->RL ⟨w',pr',lam⟩ cs xs
 | [],_,_,q=>by simpa [RL] using q
 | c :: cs,_,n,q=>by
  simp only [V.flatL,zyL] at n; simp only [RL] at q ⊢
  obtain ⟨y,ys,e,q1,q2⟩:=q
  exact ⟨y,ys,e,R.flat c y n.1 q1,RL.flat cs ys n.2 q2⟩
end
theorem RM.flat {w w':World} {pr pr':Nat->Nat->Prop} {lam:Nat->Option Nat}:∀ (cs:List V) (es:List MapEntry),V.flatL cs = true->RM ⟨w,pr,lam⟩ cs es->RM ⟨w',pr',lam⟩ cs es
 | [],_,_,q=>by simpa [RM] using q
 | c :: cs,_,n,q=>by
  simp only [V.flatL,zyL] at n; simp only [RM] at q ⊢
  obtain ⟨k,v,e,es',rfl,h2,h3,h4,h5⟩:=q
  have n1:=n.1
  simp only [V.flat,V.flatL,Bool.and_true,zyL] at n1
  exact ⟨k,v,e,es',rfl,h2,R.flat _ _ n1.1 h3,R.flat _ _ n1.2 h4,RM.flat cs es' n.2 h5⟩
theorem zeh:∀ {cs:List V},V.flatL cs = true->∀ c ∈ cs,c.flat = true
 | [],_,c,hc=>by simp at hc
 | d :: cs,h,c,hc=>by
  simp only [V.flatL,zyL] at h
  rcases List.mem_cons.1 hc with rfl | hc
  ·exact h.1
  ·exact zeh h.2 c hc
theorem zgv:∀ {cs:List V},(∀ c ∈ cs,c.flat = true)->V.flatL cs = true
 | [],_=>rfl
 | d :: cs,h=>by
  have h1:=h d (by simp)
  have h2:V.flatL cs = true:=zgv (fun c hc=>h c (List.mem_cons_of_mem _ hc))
  simp [V.flatL,h1,h2]
theorem Yc.flat {w w':World} {pr pr':Nat->Nat->Prop} {lam:Nat->Option Nat} {b:Nat} {B:Box} (hb:w'.heap[b]? = w.heap[b]?) (hf:V.flatL B.cells = true) (h:Yc ⟨w,pr,lam⟩ b B):Yc ⟨w',pr',lam⟩ b B:=by
 refine ⟨fun ht=>?_,fun ht=>?_⟩
 ·obtain ⟨cur,h1,h2,h3⟩:=h.cells ht
  exact ⟨cur,hb.trans h1,RL.flat _ _ hf h2,h3⟩
 ·obtain ⟨es,clock,h1,h2,h3⟩:=h.map ht
  exact ⟨es,clock,hb.trans h1,RM.flat _ _ hf h2,h3⟩
section
variable {P:Program} {n':Nat} {F:Fr} {st:St} {a:Act} {w:World} {pr:Nat->Nat->Prop} {lam:Nat->Option Nat}
theorem zC.own0 (h:zC P F st a w pr lam) {ss tk:Nat} {e:TypeId} {rows:List V} {sz:Nat} (hs:st.env ss = .list rows) (htk:st.tok ss = some (tk,e)) (hcl:tcl tk = 0) (hsz:sizeT P e = some sz) (hr:qL sz rows) (hne:rows ≠ []) :
  ∃ g cap cur,a.tmps.getD ss undef = .slice (some ⟨g,0,none⟩) rows.length cap/\rows.length <= cap/\cap <= maxLen/\zJ 0 (a.tmps.getD ss undef) = some g/\F.mine g/\w.heap[g]? = some (.cells cur e (0,0))/\cur.size = cap * sz /\
   RR ⟨w,pr,lam⟩ g sz 0 rows/\(∀ o,rows.length * sz <= o->¬ pr g o):=by
 have hR:=h.env ss
 rw [hs] at hR
 simp only [R] at hR
 obtain ⟨base,cap,hv,hc,hm,hb⟩:=hR
 have hpos:0 < rows.length:=List.length_pos_iff.2 hne
 rcases hb with ⟨hb,_⟩ | ⟨b,o,k,rfl,hb⟩
 ·exact absurd hb hne
 have hg:zJ (tcl tk) (a.tmps.getD ss undef) = some b:=by
  rw [hv,hcl]
  simp only [zJ]
  rw [if_pos (.inl ⟨trivial,by omega⟩)]
 obtain ⟨q1,n,cap',cur,sz',q2,q3,q4,q5,q6⟩:=h.own ss tk e htk b hg
 rw [hv] at q2
 simp only [Value.slice.injEq,zyO,Addr.mk.injEq] at q2
 obtain ⟨⟨_,rfl,_⟩,rfl,rfl⟩:=q2
 have hss:sz' = sz:=by
  have:sizeT P e = some sz':=q4
  rw [hsz] at this; cases this; rfl
 subst hss
 obtain ⟨r,hr'⟩:=List.exists_mem_of_ne_nil rows hne
 have hk:=hb.size hr hr'
 subst hk
 exact ⟨b,cap,cur,hv,hc,hm,by rw [<- hcl]; exact hg,q1,q3,q5,hb,q6⟩
def Yx (tk:Nat) (rows':List V) (x:V × Option (Nat × TypeId)):V × Option (Nat × TypeId) :=
 match x.2 with
 | some (t,e)=>if t = tk then (.list rows',x.2) else if tcl t = 2 then x else if x.1.flat = true then x else if tcl t = 0 then
   (match x.1 with | .list rs=>if V.flatL rs = true then x else (.any,none) | _=>(.any,none)) else (.any,none)
 | none=>if x.1.flat = true then x else (.any,none)
theorem zlW (tk:Nat) (rows':List V) (x:V × Option (Nat × TypeId)) :
  (∃ e,x.2 = some (tk,e)/\Yx tk rows' x = (.list rows',x.2)) ∨ Yx tk rows' x = (.any,none) ∨
  (Yx tk rows' x = x/\((∃ t e,x.2 = some (t,e)/\t ≠ tk/\(tcl t = 2 ∨ (tcl t = 0/\∃ rs,x.1 = .list rs/\V.flatL rs = true))) ∨ x.1.flat = true)/\∀ e,x.2 ≠ some (tk,e)):=by
 obtain ⟨v,tok⟩:=x
 unfold Yx
 cases tok with
 | none =>
  simp only
  split
  ·rename_i h; exact .inr (.inr ⟨rfl,.inr h,fun e he=>by cases he⟩)
  ·exact .inr (.inl rfl)
 | some te =>
  obtain ⟨t,e⟩:=te
  simp only
  by_cases h1:t = tk
  ·rw [if_pos h1]; subst h1; exact .inl ⟨e,rfl,rfl⟩
  ·rw [if_neg h1]
   have hne:∀ e',(some (t,e):Option (Nat × TypeId)) ≠ some (tk,e'):=fun e' he=>by cases he; exact h1 rfl
   by_cases h2:tcl t = 2
   ·rw [if_pos h2]; exact .inr (.inr ⟨rfl,.inl ⟨t,e,rfl,h1,.inl h2⟩,hne⟩)
   ·rw [if_neg h2]
    by_cases h3:v.flat = true
    ·rw [if_pos h3]; exact .inr (.inr ⟨rfl,.inr h3,hne⟩)
    ·rw [if_neg h3]
     by_cases h4:tcl t = 0
     ·rw [if_pos h4]
      cases v with
      | list rs =>
       simp only
       split
       ·rename_i h5; exact .inr (.inr ⟨rfl,.inl ⟨t,e,rfl,h1,.inr ⟨h4,rs,rfl,h5⟩⟩,hne⟩)
       ·exact .inr (.inl rfl)
      | _=>exact .inr (.inl rfl)
     ·rw [if_neg h4]; exact .inr (.inl rfl)
end
end Go.Eng
namespace Go.Eng
open Go.RowKit
def St.newBox (st:St) (cs:List V) (ty:TypeId):St:={ st with nb:=st.nb + 1,box:=upd st.box st.nb (some ⟨cs,ty⟩) }
def zr0 (st:St) (e:TypeId) (v:V) (dst:Option Nat) (K:St->Prop):Prop :=
 e < 1000000000/\v.csize.isSome = true/\st.box st.nb = none/\K ((st.newBox v.cellsL e).put dst (.loc st.nb 0) none)
def QU (P:Program) (t:TypeId) (st:St) (x y:V) (dst:Option Nat) (K:St->Prop):Prop :=
 match x with
 | .loc i off=>(match st.box i,sizeT P t with
  | some B,some n=>B.ty < 1000000000/\y.csize = some n/\off + n <= B.cells.length/\dst = none/\K (st.setBox i ⟨B.cells.take off++y.cellsL++B.cells.drop (off + n),B.ty⟩)
  | _,_=>False)
 | _=>False
def YN (P:Program) (st:St) (ss:Nat) (x:V) (t u:TypeId) (dst:Option Nat) (K:St->Prop):Prop :=
 match st.env ss,st.tok ss,qB P t with
 | .list rows,some (tk,e),some e'=>(match sizeT P e,bytesT P e,zeroT P e with
  | some sz,some by',some zv=>(e = e'/\tcl tk < 2/\srcT P u = true/\zv.csize = some sz/\by' ≠ 0)/\qL sz rows/\(match x with
   | .list rows2=>qL sz rows2/\(rows.length + rows2.length) * by' <= 140737488355328/\K ((st.clear tk).put dst (.list (rows++rows2)) (some (tk,e)))
   | .str l=>sz = 1/\(rows.length + l.length) * by' <= 140737488355328/\K ((st.clear tk).put dst (.list (rows++bytesV l)) (some (tk,e)))
   | _=>False)
  | _,_,_=>False)
 | _,_,_=>False
def zp2 (st:St) (t:TypeId) (dst:Option Nat) (K:St->Prop):Prop :=
 st.box st.nb = none/\K ((st.newBox [] (1000000000 + t)).put dst (.mref st.nb) none)
def zbB (P:Program) (t:TypeId) (st:St) (m x y:V) (dst:Option Nat) (K:St->Prop):Prop :=
 match m,mapT P t with
 | .mref i,some (kt,_)=>(match st.box i,keyT P kt with
  | some B,some (ag,ks)=>1000000000 <= B.ty/\KeyT P kt/\zbo ag ks x/\zaL ag ks B.cells/\dst = none/\K (st.setBox i ⟨Y2 B.cells x y,B.ty⟩)
  | _,_=>False)
 | _,_=>False
def zgb (P:Program) (dr:Bool) (st:St) (f:V) (args:List V) (dst:Option Nat) (K:St->Prop):Prop :=
 match f with
 | .fn (.func g) first cap=>znQ P g (first++args++cap) (fun v=>K (st.put dst v none)) ∨ (dr = false/\zki P g (first++args++cap) st dst K)
 | _=>False
def zj1 (o:Oper) (st:St) (v:V) (tk:Option (Nat × TypeId)):St :=
 bif yr o then st.put o.dst v tk else (st.fresh tk).put o.dst v tk
def Qw (o:Oper):Bool:=match o.op with
 | .assign (.const (.slice none 0 0))=>true
 | .buildSlice .. | .slice ..=>true
 | _=>false
def zi6 (dr:Bool) (o:Oper) (tk:Option (Nat × TypeId)):Prop:=dr = true->yr o = false->∀ t e,tk = some (t,e)->Qw o = true/\o.dst = some (t % 1000000)/\tcl t < 2
def zfd (P:Program) (o:Oper) (st:St) (K:St->Prop):Prop:=∀ n',(∀ d,o.dst = some d->d < n')->(∀ d,o.dst = some d->d < 1000000)->Y0 P n' o st K
def ZY (P:Program) (dr:Bool) (o:Oper) (st:St) (K:St->Prop):Prop :=
 match o.op with
 | .box e x=>zr0 st e (st.eval x) o.dst K
 | .alloc e=>(match zeroT P e with | some v=>zr0 st e v o.dst K | none=>False)
 | .store t x y=>QU P t st (st.eval x) (st.eval y) o.dst K
 | .call { callee:=.builtin .append,args,argTypes }=>(match args.toList,argTypes.toList with
  | [.tmp ss,x],[t,u]=>YN P st ss (st.eval x) t u o.dst K
  | _,_=>False)
 | .makeMap t none=>zp2 st t o.dst K
 | .mapUpdate t m x y=>zbB P t st (st.eval m) (st.eval x) (st.eval y) o.dst K
 | .call { callee:=.value f,args,.. }=>zgb P dr st (st.eval f) (args.toList.map st.eval) o.dst K
 | _=>Zh P o st fun v tk=>zi6 dr o tk/\K (zj1 o st v tk)
def zfR (P:Program) (dr:Bool) (o:Oper) (st:St) (K:St->Prop):Prop:=ZY P dr o st K ∨ (dr = false/\zfd P o st K)
def Qx (n:Nat) (o:Oper):Bool:=match o.dst with | some d=>decide (d < n) && decide (d < 1000000) | none=>true
section
variable {P:Program} {n':Nat} {dr:Bool} {o:Oper} {st:St} {K:St->Prop}
theorem YA {n:Nat} (h:Qx n o = true):∀ d,o.dst = some d->d < n:=by
 intro d hd
 simp [Qx,hd] at h
 exact h.1
theorem zbC {n:Nat} (h:Qx n o = true):∀ d,o.dst = some d->d < 1000000:=by
 intro d hd
 simp [Qx,hd] at h
 exact h.2
theorem zr1 {v:V} {tk:Option (Nat × TypeId)} (h:QVF P o st.eval st.tokOf st.box v tk) (hd:∀ d,o.dst = some d->d < n') (hk:K (zj1 o st v tk)):Y0 P n' o st K:=by
 unfold zj1 at hk
 rcases h with ⟨hc,fr,hq,ht⟩ | ⟨hc,x,hx,rfl,rfl⟩
 ·rw [hc] at hk
  exact YD hq ht hd hk
 ·rw [hc] at hk
  exact zeq hx hd hk
theorem zr2 {v:V} {tk:Option (Nat × TypeId)} (h:QVT P o st.eval st.tokOf st.box v tk) (hd:∀ d,o.dst = some d->d < n') (hk:K (st.put o.dst v tk)):Y0 P n' o st K:=by
 rcases h with ⟨fr,hq,ht⟩ | ⟨x,hx,rfl,rfl⟩
 ·subst ht
  exact YD hq (tk:=none) (fun _ _ h=>by cases h) hd hk
 ·exact zeq hx hd hk
theorem zC.nb {F:Fr} {a:Act} {w:World} {pr:Nat->Nat->Prop} {lam:Nat->Option Nat} (h:zC P F st a w pr lam) (n:Nat):zC P F { st with nb:=n } a w pr lam :=
 ⟨h.size,h.defers,h.env,h.own,h.coh,h.box,h.inj,h.apart,h.nolam,h.prlt,h.keep,h.prsub,h.prnew,h.lamsub,h.coh2,h.old,h.ptr⟩
theorem zj2 (h:Y0 P n' o st fun st'=>K { st' with nb:=st'.nb + 1 }):Y0 P n' o st K:=by
 intro F a w pr lam hF hs next Q hn
 exact h F a w pr lam hF hs next Q fun st' a' w' pr' lam' hk hs'=>hn _ a' w' pr' lam' hk (hs'.nb _)
theorem Qy (hd:Qx n' o = true) (h:zfR P dr o st K):Y0 P n' o st K:=by
 have hd':=YA hd
 rcases h with h | ⟨_,h⟩
 rotate_left
 ·exact h n' hd' (zbC hd)
 unfold ZY at h
 split at h
 ·rename_i e x ho
  obtain ⟨h0,h1,h2,h3⟩:=h
  obtain ⟨n,hn⟩:=Option.isSome_iff_exists.1 h1
  refine zj2 (zma ho rfl hn h2 h0 hd' ?_)
  cases hq:o.dst <;> (rw [hq] at h3; exact h3)
 ·rename_i e ho
  split at h
  ·rename_i v hz
   obtain ⟨h0,h1,h2,h3⟩:=h
   obtain ⟨n,hn⟩:=Option.isSome_iff_exists.1 h1
   refine zj2 (zgK ho hz hn h2 h0 hd' ?_)
   cases hq:o.dst <;> (rw [hq] at h3; exact h3)
  ·exact h.elim
 ·rename_i t x y ho
  unfold QU at h
  split at h
  ·rename_i i off hx
   split at h
   ·rename_i B n hB hs
    exact zn9 ho hx rfl hB h.2.1 hs h.2.2.1 h.1 h.2.2.2.1 h.2.2.2.2
   ·exact h.elim
  ·exact h.elim
 ·rename_i args tys ho
  split at h
  ·rename_i ss x t u ha ht
   have ea:args = #[.tmp ss,x]:=by obtain ⟨l⟩:=args; simpa using ha
   have et:tys = #[t,u]:=by obtain ⟨l⟩:=tys; simpa using ht
   subst ea; subst et
   unfold YN at h
   split at h
   ·rename_i rows tk e e' hr htk hT
    split at h
    ·rename_i sz by' zv hs hb hz
     obtain ⟨⟨rfl,hcl,h1,h2,h2b⟩,h3,h4⟩:=h
     have hmax:∀ m:Nat,m * by' <= 140737488355328->m <= maxLen:=by
      intro m hm
      have:m * 1 <= m * by':=Nat.mul_le_mul_left _ (Nat.one_le_iff_ne_zero.2 h2b)
      simp only [maxLen]; omega
     split at h4
     ·rename_i rows2 hx
      obtain ⟨h5,h6,h7⟩:=h4
      exact zbl ho hr htk hcl (yF hT) h1 hs hb hz h2 h3 (fun w pr lam xv hxv=>Src.list (by rw [hx] at hxv; exact hxv) h5) h6 (hmax _ h6) hd' h7
     ·rename_i l hx
      obtain ⟨h5,h6,h7⟩:=h4
      subst h5
      have hl:(bytesV l).length = l.length:=by simp [bytesV]
      exact zbl ho hr htk hcl (yF hT) h1 hs hb hz h2 h3 (fun w pr lam xv hxv=>Src.str (by rw [hx] at hxv; exact hxv)) (by rw [hl]; exact h6) (by rw [hl]; exact hmax _ h6) hd' h7
     ·exact h4.elim
    ·exact h.elim
   ·exact h.elim
  ·exact h.elim
 ·rename_i t ho
  obtain ⟨h1,h2⟩:=h
  refine zj2 (zkh ho h1 hd' ?_)
  cases hq:o.dst <;> (rw [hq] at h2; exact h2)
 ·rename_i t m x y ho
  unfold zbB at h
  split at h
  ·rename_i i kt et hm hT
   split at h
   ·rename_i B ag ks hB hk
    exact zgQ ho hm hB h.1 hT hk h.2.1 h.2.2.1 h.2.2.2.1 h.2.2.2.2.1 h.2.2.2.2.2
   ·exact h.elim
  ·exact h.elim
 ·rename_i f args tys ho
  unfold zgb at h
  split at h
  ·rename_i g first cap hf
   rcases h with ⟨h1,h2,res,h3,h4⟩ | ⟨_,h⟩
   ·exact zr2 (.inl ⟨none,zkf ho hf h1 h2 h3,rfl⟩) hd' h4
   ·exact zoa ho hf hd' h
  ·exact h.elim
 ·obtain ⟨v,tk,hq,hk⟩:=zfc (zbC hd) h
  exact zr1 hq hd' hk.2
end
end Go.Eng
namespace Go.Eng
open Go.RowKit
section
variable {P:Program} {w:World} {t kt et:TypeId} {b:Nat} {es:Array MapEntry} {clock:Nat}
end
section
variable {P:Program} {n':Nat} {st:St} {K:St->Prop}
end
section
variable {P:Program} {n':Nat} {st:St} {K:St->Prop} {o:Oper}
end
end Go.Eng
namespace Go.Eng
open Go.RowKit
def rd (ops:Array Oper) (L:Array Bool) (p:List Nat):List Nat:=Region.ready .any ops (p.foldl (fun l i=>l.setIfInBounds i true) L)
def rsB (ops:Array Oper) (L:Array Bool) (k:Nat):Bool :=
 rd ops L [] == [k,k + 2] && rd ops L [k] == [k + 1,k + 2] && rd ops L [k,k + 1] == [k + 2] && rd ops L [k,k + 1,k + 2] == [k + 3] && rd ops L [k,k + 1,k + 2,k + 3] == [k + 4] && rd ops L [k,k + 2] == [k + 1,k + 3] && rd ops L [k,k + 2,k + 1] == [k + 3] && rd ops L [k,k + 2,k + 1,k + 3] == [k + 4] && rd ops L [k,k + 2,k + 3] == [k + 1] && rd ops L [k,k + 2,k + 3,k + 1] == [k + 4] && rd ops L [k + 2] == [k,k + 3] && rd ops L [k + 2,k] == [k + 1,k + 3] && rd ops L [k + 2,k,k + 1] == [k + 3] && rd ops L [k + 2,k,k + 1,k + 3] == [k + 4] && rd ops L [k + 2,k,k + 3] == [k + 1] && rd ops L [k + 2,k,k + 3,k + 1] == [k + 4] && rd ops L [k + 2,k + 3] == [k] && rd ops L [k + 2,k + 3,k] == [k + 1] && rd ops L [k + 2,k + 3,k,k + 1] == [k + 4] && rd ops L [k,k + 1,k + 2,k + 3,k + 4] == [] && rd ops L [k,k + 2,k + 1,k + 3,k + 4] == [] && rd ops L [k,k + 2,k + 3,k + 1,k + 4] == [] && rd ops L [k + 2,k,k + 1,k + 3,k + 4] == [] && rd ops L [k + 2,k,k + 3,k + 1,k + 4] == [] && rd ops L [k + 2,k + 3,k,k + 1,k + 4] == []
end Go.Eng
namespace Go.Eng
open Go.RowKit
def znR (ds:List (Option Nat)) (st:St) (g:Option (Nat × Bool)) (A B:Prop):Prop :=
 match g with
 | none=>A
 | some (j,want)=>match ds[j]? with
  | some (some d)=>(match st.env d with
   | .bool b=>zuR (b == want) A B
   | .un=>B
   | _=>False)
  | _=>B
def zvP (_:Program) (_ _ _ _ _:Oper) (_:St) (_:St->Prop):Prop:=False
def Qz (P:Program) (dr:Bool) (ds:List (Option Nat)):List Oper->St->(St->Prop)->Prop
 | [],st,K=>K st
 | o :: os,st,K=>znR ds st o.guard (zfR P dr o st fun st'=>Qz P dr ds os st' K) (Qz P dr ds os (st.put o.dst .un none) K) ∨ (dr = true/\∃ o3 o4 o5 o6,os = [o3,o4,o5,o6]/\zvP P o o3 o4 o5 o6 st K)
def gdB (ds:List (Option Nat)) (st:St) (g:Option (Nat × Bool)):Option Bool :=
 match g with
 | none=>some true
 | some (j,want)=>match ds[j]? with
  | some (some d)=>(match st.env d with
   | .bool b=>some (b == want)
   | .un=>some false
   | _=>none)
  | _=>some false
theorem zr3 (b:Bool) (A B:Prop):zuR b A B ↔ (b = true/\A) ∨ (b = false/\B):=by
 cases b <;> simp [zuR]
theorem zaq {ds:List (Option Nat)} {st:St} {g:Option (Nat × Bool)} {A B:Prop}:znR ds st g A B ↔ ((gdB ds st g = some true/\A) ∨ (gdB ds st g = some false/\B)):=by
 cases g with
 | none=>simp [znR,gdB]
 | some jw =>
  obtain ⟨j,want⟩:=jw
  simp only [znR,gdB]
  cases hd:ds[j]? with
  | none=>simp
  | some od =>
   cases od with
   | none=>simp
   | some d =>
    simp only
    cases he:st.env d <;> simp [zr3]
section
variable {P:Program} {n':Nat} {dr:Bool}
theorem YB {F:Fr} {st:St} {a:Act} {w:World} {pr:Nat->Nat->Prop} {lam:Nat->Option Nat} {ops:Array Oper} {o:Oper} {b:Bool} (h:zC P F st a w pr lam) (hg:gdB (ops.toList.map (·.dst)) st o.guard = some b) :
  Region.wanted o (yielded ops a.tmps) = b:=by
 unfold gdB at hg
 unfold Region.wanted
 split at hg
 ·rename_i hq; rw [hq]; simpa using hg
 ·rename_i j want hq
  rw [hq]
  simp only
  split at hg
  ·rename_i d hd
   have hd':(ops[j]?).bind (·.dst) = some d:=by
    rw [List.getElem?_map,Array.getElem?_toList] at hd
    cases ho:ops[j]? with
    | none=>rw [ho] at hd; simp at hd
    | some o'=>rw [ho] at hd; simpa using hd
   have hr:=h.env d
   have hget:∀ v,a.tmps.getD d undef = v->v ≠ undef->a.tmps[d]? = some v:=by
    intro v hv hne
    by_cases hlt:d < a.tmps.size
    ·rw [<- hv]; simp [hlt]
    ·exfalso; apply hne; rw [<- hv]; simp [Array.getElem?_eq_none (by omega:a.tmps.size <= d)]
   split at hg
   ·rename_i b' hb'
    rw [hb'] at hr
    simp only [R] at hr
    have:=hget _ hr (by simp [undef])
    simp only [yielded,hd',zyP,this]
    simpa using hg
   ·rename_i hb'
    rw [hb'] at hr
    simp only [R] at hr
    have hy:yielded ops a.tmps j = none:=by
     simp only [yielded,hd',zyP]
     by_cases hlt:d < a.tmps.size
     ·have:a.tmps[d]? = some undef:=by rw [<- hr]; simp [hlt]
      rw [this]; rfl
     ·rw [Array.getElem?_eq_none (by omega)]
    rw [hy]
    simpa using hg
   ·cases hg
  ·rename_i hd
   have hy:yielded ops a.tmps j = none:=by
    unfold yielded
    rw [List.getElem?_map,Array.getElem?_toList] at hd
    cases ho:ops[j]? with
    | none=>rfl
    | some o' =>
     rw [ho] at hd
     simp only [zyP]
     cases hq':o'.dst with
     | none=>rfl
     | some d=>exact absurd (by rw [Option.map_some,hq']) (hd d)
   rw [hy]
   simpa using hg
theorem zC.putUn {F:Fr} {st:St} {a:Act} {w:World} {pr:Nat->Nat->Prop} {lam:Nat->Option Nat} (h:zC P F st a w pr lam) {dst:Option Nat} (hd:∀ d,dst = some d->d < F.nt) :
  zC P F (st.put dst .un none) (a.put dst undef) w pr lam:=h.put hd (by simp [R]) trivial
theorem zbD (hdr:dr = false) {ops:Array Oper} {K:St->Prop}:∀ (l:List Oper) (i:Nat) (st:St),(∀ j,l[j]? = ops[i + j]?)->l.all (Qx n') = true->Qz P dr (ops.toList.map (·.dst)) l st K ->
  ∀ (F:Fr) (a:Act) (w:World) (pr:Nat->Nat->Prop) (lam:Nat->Option Nat),F.nt = n'->zC P F st a w pr lam->∀ Q:Exit->Act->World->Prop,
   (∀ st' a' w' pr' lam',K st'->zC P F st' a' w' pr' lam'->Q .normal a' w')->wpOps P ops Q (List.range' i l.length) a w
 | [],i,st,_,_,h,F,a,w,pr,lam,_,hs,Q,hn=>by
  simp only [List.length_nil,List.range'_zero,wpOps]
  exact hn st a w pr lam h hs
 | o :: os,i,st,hl,hall,h,F,a,w,pr,lam,hF,hs,Q,hn=>by
  have h0:ops[i]? = some o:=by simpa using (hl 0).symm
  simp only [List.all_cons,zyL] at hall
  have hl':∀ j,os[j]? = ops[i + 1 + j]?:=fun j=>by have:=hl (j + 1); simpa [Nat.add_assoc,Nat.add_comm 1 j] using this
  simp only [List.length_cons,List.range'_succ,wpOps,h0]
  simp only [Qz] at h
  rcases h with h | ⟨h,_⟩
  rotate_left
  ·rw [hdr] at h; cases h
  rcases zaq.1 h with ⟨hg,h⟩ | ⟨hg,h⟩
  ·rw [YB hs hg]
   simp only [if_true]
   left
   exact Qy hall.1 h F a w pr lam hF hs _ _ fun st' a' w' pr' lam' hk hs'=>zbD hdr os (i + 1) st' hl' hall.2 hk F a' w' pr' lam' hF hs' Q hn
  ·rw [YB hs hg]
   simp only [Bool.false_eq_true,if_false]
   exact zbD hdr os (i + 1) _ hl' hall.2 h F _ w pr lam hF (hs.putUn (by rw [hF]; exact YA hall.1)) Q hn
theorem QVT.congr {o:Oper} {ρ ρ':Operand->V} {τ τ':Operand->Option (Nat × TypeId)} {bx:Nat->Option Box} {v:V} {tk:Option (Nat × TypeId)} (h:QVT P o ρ τ bx v tk)
  (he:∀ x ∈ o.op.operands,ρ' x = ρ x/\τ' x = τ x):QVT P o ρ' τ' bx v tk:=by
 rcases h with ⟨fr,hq,ht⟩ | ⟨x,hx,rfl,rfl⟩
 ·refine .inl ⟨fr,fun a w pr lam h1 h2=>hq a w pr lam h1 fun x hx=>?_,ht⟩
  rw [← (he x hx).1]; exact h2 x hx
 ·have hm:x ∈ o.op.operands:=by rcases hx with hx | hx <;> simp [hx,Op.operands]
  exact .inr ⟨x,hx,((he x hm).1).symm,((he x hm).2).symm⟩
theorem zxo {st:St} {dst:Option Nat} {v:V} {tk:Option (Nat × TypeId)} {ops:Array Oper} {o:Oper} (h:∀ d,dst = some d->d ∉ o.looksAt ops) :
  (∀ x ∈ o.op.operands,(st.put dst v tk).eval x = st.eval x/\(st.put dst v tk).tokOf x = st.tokOf x)/\gdB (ops.toList.map (·.dst)) (st.put dst v tk) o.guard = gdB (ops.toList.map (·.dst)) st o.guard:=by
 cases dst with
 | none=>exact ⟨fun _ _=>⟨rfl,rfl⟩,rfl⟩
 | some d =>
  have hd:=h d rfl
  simp only [Oper.looksAt,List.mem_append,not_or] at hd
  constructor
  ·intro x hx
   cases x with
   | tmp t =>
    have hne:t ≠ d:=by
     rintro rfl
     apply hd.1
     rw [List.mem_filterMap]
     exact ⟨.tmp t,by simpa using hx,rfl⟩
    simp only [St.eval,St.tokOf,St.env_put,St.tok_put,upd,if_neg hne,and_self]
   | const v=>exact ⟨rfl,rfl⟩
   | global g=>exact ⟨rfl,rfl⟩
   | func f=>exact ⟨rfl,rfl⟩
  ·unfold gdB
   cases hg:o.guard with
   | none=>rfl
   | some gw =>
    obtain ⟨j,want⟩:=gw
    simp only
    cases hds:(ops.toList.map (·.dst))[j]? with
    | none=>rfl
    | some od =>
     cases od with
     | none=>rfl
     | some d' =>
      simp only
      have hne:d' ≠ d:=by
       rintro rfl
       apply hd.2
       rw [hg]
       rw [List.getElem?_map,Array.getElem?_toList] at hds
       cases ho:ops[j]? with
       | none=>rw [ho] at hds; simp at hds
       | some o' =>
        rw [ho] at hds
        simp at hds
        simp only [ho,zyP,hds]
        simp
      simp only [St.env_put,upd,if_neg hne]
theorem Y0.mono {o:Oper} {st:St} {K K':St->Prop} (h:Y0 P n' o st K) (hk:∀ st,K st->K' st):Y0 P n' o st K' :=
 fun F a w pr lam hF hs next Q hn=>h F a w pr lam hF hs next Q fun st' a' w' pr' lam' k r=>hn st' a' w' pr' lam' (hk st' k) r
def ql (o:Oper):Bool:=match o.op with
 | .box .. | .alloc _ | .store .. | .mapUpdate .. | .makeMap ..=>true
 | _=>false
def QW (o:Oper):Bool:=match o.op with
 | .call { callee:=.builtin .append,.. }=>true
 | _=>false
def ancB (ops:Array Oper):Nat->Nat->Nat->Bool
 | 0,_,_=>false
 | fuel + 1,j,i=>match ops[j]? with
  | some o=>o.after.toList.any fun e=>Region.binds .any e && (e.on == i || ancB ops fuel e.on i)
  | none=>false
def pinned (ops:Array Oper) (k:Nat):Bool :=
 (List.range ops.size).all fun i=>i == k || (if i < k then ancB ops ops.size k i else ancB ops ops.size i k)
def Cl (ops:Array Oper) (listed:Array Bool):Prop :=
 ∀ (j:Nat) (oj:Oper),ops[j]? = some oj->listed.getD j false = true->∀ e ∈ oj.after,Region.binds .any e = true->listed.getD e.on false = true
theorem anc_listed {ops:Array Oper} {listed:Array Bool} (hc:Cl ops listed) {i:Nat}:∀ (fuel j:Nat),ancB ops fuel j i = true ->
  (∀ oj,ops[j]? = some oj->∀ e ∈ oj.after,Region.binds .any e = true->listed.getD e.on false = true)->listed.getD i false = true
 | 0,_,h,_=>by simp [ancB] at h
 | fuel + 1,j,h,hj=>by
  simp only [ancB] at h
  split at h
  ·rename_i o ho
   rw [List.any_eq_true] at h
   obtain ⟨e,he,h⟩:=h
   simp only [zyL,Bool.or_eq_true,beq_iff_eq] at h
   have hl:=hj o ho e (by simpa using he) h.1
   rcases h.2 with h2 | h2
   ·rw [<- h2]; exact hl
   ·exact anc_listed hc fuel e.on h2 fun oj hoj e' he' hb'=>hc e.on oj hoj hl e' he' hb'
  ·cases h
theorem unlisted_of {listed:Array Bool} {i:Nat} (h:listed.getD i true = false):listed.getD i false = false:=by
 rcases Nat.lt_or_ge i listed.size with h' | h'
 ·simpa [h'] using h
 ·simp [Array.getElem?_eq_none h'] at h
theorem zdk {ops:Array Oper} {listed:Array Bool} (hc:Cl ops listed) {i j:Nat} (hp:pinned ops j = true) (hi:i ∈ Region.ready .any ops listed) (hj:j ∈ Region.ready .any ops listed):i = j:=by
 apply Classical.byContradiction
 intro hne
 obtain ⟨ui,oi,hoi,ai⟩:=mem_ready.1 hi
 obtain ⟨uj,oj,hoj,aj⟩:=mem_ready.1 hj
 unfold pinned at hp
 rw [zyS] at hp
 have hlt:i < ops.size:=(Array.getElem?_eq_some_iff.1 hoi).1
 have h:=hp i (by simpa using hlt)
 simp only [Bool.or_eq_true,beq_iff_eq,hne,false_or] at h
 split at h
 ·have:=anc_listed hc _ j h (fun o ho e he hb=>by rw [hoj] at ho; cases ho; exact aj e he hb)
  rw [unlisted_of ui] at this; cases this
 ·have:=anc_listed hc _ i h (fun o ho e he hb=>by rw [hoi] at ho; cases ho; exact ai e he hb)
  rw [unlisted_of uj] at this; cases this
theorem Cl.step {ops:Array Oper} {listed:Array Bool} (hc:Cl ops listed) {i:Nat} (hi:i ∈ Region.ready .any ops listed):Cl ops (listed.setIfInBounds i true):=by
 intro j oj hoj hl e he hb
 obtain ⟨ui,oi,hoi,ai⟩:=mem_ready.1 hi
 by_cases hji:j = i
 ·subst hji
  rw [hoi] at hoj; cases hoj
  exact getD_set_true (ai e he hb)
 ·rw [getD_set_ne false (Ne.symm hji)] at hl
  exact getD_set_true (hc j oj hoj hl e he hb)
def zgc (ops:Array Oper) (i j:Nat):Prop:=ancB ops ops.size i j = true ∨ ancB ops ops.size j i = true
theorem ziu {ops:Array Oper} {listed:Array Bool} (hc:Cl ops listed) {i j:Nat} (hp:zgc ops i j) (hi:i ∈ Region.ready .any ops listed) (hj:j ∈ Region.ready .any ops listed):False:=by
 obtain ⟨ui,oi,hoi,ai⟩:=mem_ready.1 hi
 obtain ⟨uj,oj,hoj,aj⟩:=mem_ready.1 hj
 rcases hp with h | h
 ·have:=anc_listed hc _ i h (fun o ho e he hb=>by rw [hoi] at ho; cases ho; exact ai e he hb)
  rw [unlisted_of uj] at this; cases this
 ·have:=anc_listed hc _ j h (fun o ho e he hb=>by rw [hoj] at ho; cases ho; exact aj e he hb)
  rw [unlisted_of ui] at this; cases this
inductive Ef where
 | put (v:V)
 | copy (x:Operand)
 | cl (v:V) (t:Nat) (e:TypeId)
 | new (i:Nat) (B:Box)
 | sto (k:Nat) (B:Box)
def Ef.val (st:St):Ef->V
 | .put v=>v
 | .copy x=>st.eval x
 | .cl v _ _=>v
 | .new i _=>.loc i 0
 | .sto _ _=>.any
def Ef.tk (st:St):Ef->Option (Nat × TypeId)
 | .put _=>none
 | .copy x=>st.tokOf x
 | .cl _ t e=>some (t,e)
 | .new _ _=>none
 | .sto _ _=>none
def Ef.c:Ef->Option Nat
 | .cl _ t _=>some t
 | _=>none
def clT (c:Option Nat) (tk:Option (Nat × TypeId)):Option (Nat × TypeId):=match c with
 | none=>tk
 | some t=>(clr t (.any,tk)).2
def Ef.nb:Ef->Nat
 | .new _ _=>1
 | _=>0
def Ef.bx (G:Ef) (bx:Nat->Option Box):Nat->Option Box:=match G with
 | .new i B=>upd bx i (some B)
 | .sto k B=>upd bx k (some B)
 | _=>bx
def Ef.app (G:Ef) (dst:Option Nat) (st:St):St :=
 { nb:=st.nb + G.nb,sl:=fun s=>if dst = some s then (G.val st,G.tk st) else ((st.sl s).1,clT G.c (st.sl s).2),box:=G.bx st.box }
theorem zar (c:Option Nat):clT c none = none:=by cases c <;> rfl
theorem zr4 (c d:Option Nat) (tk:Option (Nat × TypeId)):clT c (clT d tk) = clT d (clT c tk):=by
 cases c with
 | none=>rfl
 | some c =>
  cases d with
  | none=>rfl
  | some d =>
   cases tk with
   | none=>rfl
   | some te =>
    obtain ⟨t,e⟩:=te
    simp only [clT,clr]
    by_cases h1:t = c ∨ t = c + 3000000 <;> by_cases h2:t = d ∨ t = d + 3000000 <;> simp [h1,h2]
theorem zlX {c:Option Nat} {tk:Option (Nat × TypeId)} {t:Nat} {e:TypeId} (h:clT c tk = some (t,e)):tk = some (t,e):=by
 cases c with
 | none=>exact h
 | some c =>
  cases tk with
  | none=>cases h
  | some te =>
   obtain ⟨t',e'⟩:=te
   simp only [clT,clr] at h
   split at h
   ·cases h
   ·exact h
theorem zlY {c:Option Nat} {t:Nat} {e:TypeId} (ht:tcl t < 2) (h:∀ t',c = some t'->t ≠ t'):clT c (some (t,e)) = some (t,e):=by
 cases c with
 | none=>rfl
 | some c =>
  simp only [clT,clr]
  rw [if_neg]
  rintro (q | q)
  ·exact h c rfl q
  ·subst q
   unfold tcl at ht
   omega
theorem Ef.app_put (v:V) (dst:Option Nat) (st:St):(Ef.put v).app dst st = st.put dst v none:=by
 cases dst with
 | none=>simp [Ef.app,Ef.c,clT,St.put,Ef.nb,Ef.bx]
 | some d =>
  simp only [Ef.app,Ef.c,clT,St.put,Ef.val,Ef.tk,Ef.nb,Ef.bx,Nat.add_zero,zyO]
  congr 1
  funext s
  simp only [upd]
  by_cases h:s = d
  ·subst h; simp
  ·rw [if_neg (fun q=>h q.symm),if_neg h]
theorem Ef.app_new (i:Nat) (B:Box) (dst:Option Nat) (st:St):(Ef.new i B).app dst st = St.put { st with nb:=st.nb + 1,box:=upd st.box i (some B) } dst (.loc i 0) none:=by
 cases dst with
 | none=>simp [Ef.app,Ef.c,clT,St.put,Ef.nb,Ef.bx]
 | some d =>
  simp only [Ef.app,Ef.c,clT,St.put,Ef.val,Ef.tk,Ef.nb,Ef.bx,zyO]
  congr 1
  funext s
  simp only [upd]
  by_cases h:s = d
  ·subst h; simp
  ·rw [if_neg (fun q=>h q.symm),if_neg h]
theorem Ef.app_sto (k:Nat) (B:Box) (st:St):(Ef.sto k B).app none st = st.setBox k B:=by
 simp [Ef.app,Ef.c,clT,Ef.nb,Ef.bx,St.setBox]
theorem Ef.app_copy (x:Operand) (dst:Option Nat) (st:St):(Ef.copy x).app dst st = st.put dst (st.eval x) (st.tokOf x):=by
 cases dst with
 | none=>simp [Ef.app,Ef.c,clT,St.put,Ef.nb,Ef.bx]
 | some d =>
  simp only [Ef.app,Ef.c,clT,St.put,Ef.val,Ef.tk,Ef.nb,Ef.bx,Nat.add_zero,zyO]
  congr 1
  funext s
  simp only [upd]
  by_cases h:s = d
  ·subst h; simp
  ·rw [if_neg (fun q=>h q.symm),if_neg h]
theorem Ef.app_cl (v:V) (t:Nat) (e:TypeId) (dst:Option Nat) (st:St):(Ef.cl v t e).app dst st = (st.clear t).put dst v (some (t,e)):=by
 cases dst with
 | none=>simp [Ef.app,Ef.c,clT,St.put,St.clear,clr,Ef.nb,Ef.bx]
 | some d =>
  simp only [Ef.app,Ef.c,clT,St.put,Ef.val,Ef.tk,Ef.nb,Ef.bx,Nat.add_zero,zyO,St.clear]
  congr 1
  funext s
  simp only [upd]
  by_cases h:s = d
  ·subst h; simp
  ·rw [if_neg (fun q=>h q.symm),if_neg h]; rfl
theorem Ef.comm {Gi Gj:Ef} {di dj:Option Nat} {st:St} (hd:∀ d,di = some d->dj ≠ some d) (hvi:Gi.val (Gj.app dj st) = Gi.val st) (hvj:Gj.val (Gi.app di st) = Gj.val st)
  (hti:Gi.tk (Gj.app dj st) = clT Gj.c (Gi.tk st)) (htj:Gj.tk (Gi.app di st) = clT Gi.c (Gj.tk st)) (hnn:∀ i B j C,Gi = .new i B->Gj = .new j C->i ≠ j) (hns:∀ i B k C,Gi = .new i B->Gj ≠ .sto k C) (hni:∀ k C,Gi ≠ .sto k C):Gj.app dj (Gi.app di st) = Gi.app di (Gj.app dj st):=by
 have hbx:Gj.bx (Gi.bx st.box) = Gi.bx (Gj.bx st.box):=by
  cases Gi with
  | sto k C=>exact absurd rfl (hni k C)
  | new i B =>
   cases Gj with
   | sto k C=>exact absurd rfl (hns i B k C rfl)
   | new j C =>
    have hne:=hnn i B j C rfl rfl
    funext k
    simp only [Ef.bx,upd]
    by_cases h1:k = i
    ·subst h1; simp [hne]
    ·by_cases h2:k = j
     ·subst h2; simp [h1]
     ·simp [h1,h2]
   | _=>rfl
  | _=>rfl
 unfold Ef.app at *
 simp only at *
 have hnb:st.nb + Gi.nb + Gj.nb = st.nb + Gj.nb + Gi.nb:=by omega
 rw [hbx,hnb]
 congr 1
 funext s
 by_cases h1:di = some s
 ·have h2:¬ dj = some s:=hd s h1
  simp only [h1,h2,if_true,if_false]
  rw [hvi,hti]
 ·by_cases h2:dj = some s
  ·simp only [h1,h2,if_true,if_false]
   rw [hvj,htj]
  ·simp only [h1,h2,if_false]
   rw [zr4]
def QX (P:Program) (rv:V) (tok:Option (Nat × TypeId)) (x:V) (t u:TypeId) (v:V) (tk:Nat) (e:TypeId):Prop :=
 match rv,tok,qB P t with
 | .list rows,some (tk',e0),some e'=>(match sizeT P e0,bytesT P e0,zeroT P e0 with
  | some sz,some by',some zv=>(tk' = tk/\e0 = e)/\(e0 = e'/\tcl tk' < 2/\srcT P u = true/\zv.csize = some sz/\by' ≠ 0)/\qL sz rows/\(match x with
   | .list rows2=>qL sz rows2/\(rows.length + rows2.length) * by' <= 140737488355328/\v = .list (rows++rows2)
   | .str l=>sz = 1/\(rows.length + l.length) * by' <= 140737488355328/\v = .list (rows++bytesV l)
   | _=>False)
  | _,_,_=>False)
 | _,_,_=>False
theorem znS {st:St} {ss:Nat} {x:V} {t u:TypeId} {dst:Option Nat} {K:St->Prop} (h:YN P st ss x t u dst K) :
  ∃ v tk e,QX P (st.env ss) (st.tok ss) x t u v tk e/\K ((st.clear tk).put dst v (some (tk,e))):=by
 unfold YN at h
 split at h
 ·rename_i rows tk e e' h1 h2 h3
  split at h
  ·rename_i sz by' zv h4 h5 h6
   obtain ⟨q1,q2,q3⟩:=h
   split at q3
   ·obtain ⟨q3,q4,q5⟩:=q3
    refine ⟨_,tk,e,?_,q5⟩
    unfold QX
    rw [h1,h2,h3]
    simp only [h4,h5,h6]
    exact ⟨⟨trivial,trivial⟩,q1,q2,q3,q4,trivial⟩
   ·obtain ⟨q3,q4,q5⟩:=q3
    refine ⟨_,tk,e,?_,q5⟩
    unfold QX
    rw [h1,h2,h3]
    simp only [h4,h5,h6]
    exact ⟨⟨trivial,trivial⟩,q1,q2,q3,q4,trivial⟩
   ·exact q3.elim
  ·exact h.elim
 ·exact h.elim
theorem znT {st:St} {ss:Nat} {x:V} {t u:TypeId} {dst:Option Nat} {K:St->Prop} {v:V} {tk:Nat} {e:TypeId} (h:QX P (st.env ss) (st.tok ss) x t u v tk e) (hk:K ((st.clear tk).put dst v (some (tk,e)))) :
  YN P st ss x t u dst K:=by
 unfold QX at h
 split at h
 ·rename_i rows tk' e0 e' h1 h2 h3
  split at h
  ·rename_i sz by' zv h4 h5 h6
   obtain ⟨⟨rfl,rfl⟩,q1,q2,q3⟩:=h
   unfold YN
   rw [h1,h2,h3]
   simp only [h4,h5,h6]
   refine ⟨q1,q2,?_⟩
   split at q3
   ·obtain ⟨q3,q4,rfl⟩:=q3
    exact ⟨q3,q4,hk⟩
   ·obtain ⟨q3,q4,rfl⟩:=q3
    exact ⟨q3,q4,hk⟩
   ·exact q3.elim
  ·exact h.elim
 ·exact h.elim
theorem Yb {rv:V} {tok:Option (Nat × TypeId)} {x:V} {t u:TypeId} {v:V} {tk:Nat} {e:TypeId} (h:QX P rv tok x t u v tk e):tok = some (tk,e)/\tcl tk < 2:=by
 unfold QX at h
 split at h
 ·split at h
  ·obtain ⟨⟨rfl,rfl⟩,q1,_⟩:=h
   exact ⟨rfl,q1.2.1⟩
  ·exact h.elim
 ·exact h.elim
def newB (o:Oper):Bool:=match o.op with
 | .box .. | .alloc _=>true
 | _=>false
def zuS (P:Program) (o:Oper) (st:St) (B:Box):Prop:=∃ v n,v.csize = some n/\B = ⟨v.cellsL,B.ty⟩/\B.ty < QB/\((∃ x,o.op = .box B.ty x/\st.eval x = v) ∨ (o.op = .alloc B.ty/\zeroT P B.ty = some v))
def stoO (o:Oper):Bool:=match o.op with
 | .store ..=>true
 | _=>false
theorem zlZ {o:Oper} (h:stoO o = true):ql o = true:=by
 unfold stoO at h
 unfold ql
 split at h
 ·rename_i ho; rw [ho]
 ·cases h
theorem zr5 {o:Oper} (h:newB o = true):ql o = true:=by
 unfold newB at h
 unfold ql
 split at h
 ·rename_i ho; rw [ho]
 ·rename_i ho; rw [ho]
 ·cases h
theorem zl0 {o:Oper} (h:newB o = true):stoO o = false:=by
 unfold newB at h
 unfold stoO
 split at h
 ·rename_i ho; rw [ho]
 ·rename_i ho; rw [ho]
 ·cases h
theorem zr6 {o:Oper} (h:ql o = false):newB o = false:=by
 cases q:newB o with
 | false=>rfl
 | true=>rw [zr5 q] at h; cases h
theorem zr7 {o:Oper} (h:ql o = false):stoO o = false:=by
 cases q:stoO o with
 | false=>rfl
 | true=>rw [zlZ q] at h; cases h
def zj3 (P:Program) (o:Oper) (st:St) (k:Nat) (C:Box):Prop:=∃ t d y n B off,o.op = .store t (.tmp d) y/\o.dst = none/\st.env d = .loc k off/\st.box k = some B/\B.ty < 1000000000/\sizeT P t = some n/\(st.eval y).csize = some n/\off + n <= B.cells.length /\
 C = ⟨B.cells.take off++(st.eval y).cellsL++B.cells.drop (off + n),B.ty⟩
def Ef.can (P:Program) (o:Oper) (β:Nat->Option Box) (st:St):Ef->Prop
 | .put v=>(newB o = false/\stoO o = false)/\∃ fr,QV P o st.eval β v fr
 | .new i B=>newB o = true/\st.box i = none/\zuS P o st B
 | .sto k C=>zj3 P o st k C
 | .copy x=>o.op = .move x ∨ o.op = .assign x
 | .cl v t e=>(Qw o = true/\o.dst = some (t % 1000000)/\tcl t < 2/\QV P o st.eval β v (some (tcl t,e))) ∨
   ∃ ss x ta tb args tys,o.op = .call { callee:=.builtin .append,args:=args,argTypes:=tys }/\args.toList = [.tmp ss,x]/\tys.toList = [ta,tb]/\QX P (st.env ss) (st.tok ss) (st.eval x) ta tb v t e
def zcs (P:Program) (ops:Array Oper) (o:Oper) (G:Ef) (β:Nat->Option Box) (st:St):Prop :=
 (gdB (ops.toList.map (·.dst)) st o.guard = some true/\G.can P o β st) ∨ (gdB (ops.toList.map (·.dst)) st o.guard = some false/\G = .put .un)
def zbk (P:Program) (n':Nat) (ops:Array Oper) (i:Nat) (K:St->Prop) (st:St):Prop :=
 match ops[i]? with
 | none=>K st
 | some o=>(∃ G,zcs P ops o G st.box st/\K (G.app o.dst st)) ∨ ((ql o = true/\pinned ops i = true)/\gdB (ops.toList.map (·.dst)) st o.guard = some true/\Y0 P n' o st K)
theorem znU {ops:Array Oper} {i:Nat} {K K':St->Prop} {st:St} (hk:∀ st,K st->K' st) (h:zbk P n' ops i K st):zbk P n' ops i K' st:=by
 unfold zbk at *
 split
 ·rename_i ho; rw [ho] at h; exact hk _ h
 ·rename_i o ho
  rw [ho] at h
  rcases h with ⟨G,h1,h2⟩ | ⟨h1,h2,h3⟩
  ·exact .inl ⟨G,h1,hk _ h2⟩
  ·exact .inr ⟨h1,h2,h3.mono hk⟩
theorem Ef.can_ok {o:Oper} {st:St} {G:Ef} {K:St->Prop} (hd:Qx n' o = true) (h:G.can P o st.box st) (hk:K (G.app o.dst st)):Y0 P n' o st K:=by
 have hd':=YA hd
 cases G with
 | sto k C =>
  obtain ⟨t,d,y,n,B,off,h1,h2,h3,h4,h5,h6,h7,h8,rfl⟩:=h
  rw [h2,Ef.app_sto] at hk
  refine Qy (dr:=true) hd (.inl ?_)
  unfold ZY
  rw [h1]
  simp only [QU,St.eval,h3,h4,h6]
  exact ⟨h5,h7,h8,h2,hk⟩
 | new i B =>
  obtain ⟨_,hi,v,n,hv,hB,hty,h⟩:=h
  rw [Ef.app_new] at hk
  have hk':K ((St.setBox { st with nb:=st.nb + 1 } i ⟨v.cellsL,B.ty⟩).put o.dst (.loc i 0) none):=by rw [<- hB]; exact hk
  have hs:∀ {F:Fr} {a:Act} {w:World} {pr:Nat->Nat->Prop} {lam:Nat->Option Nat},zC P F st a w pr lam->zC P F { st with nb:=st.nb + 1 } a w pr lam:=fun h =>
   ⟨h.size,h.defers,h.env,h.own,h.coh,h.box,h.inj,h.apart,h.nolam,h.prlt,h.keep,h.prsub,h.prnew,h.lamsub,h.coh2,h.old,h.ptr⟩
  rcases h with ⟨x,ho,hx⟩ | ⟨ho,hz⟩
  ·intro F a w pr lam hF h
   exact zma (st:={ st with nb:=st.nb + 1 }) ho (by rw [<- hx]; cases x <;> rfl) hv hi hty hd' hk' F a w pr lam hF (hs h)
  ·intro F a w pr lam hF h
   exact zgK (st:={ st with nb:=st.nb + 1 }) ho hz hv hi hty hd' hk' F a w pr lam hF (hs h)
 | put v =>
  obtain ⟨_,fr,h⟩:=h
  rw [Ef.app_put] at hk
  exact YD h (tk:=none) (fun _ _ h=>by cases h) hd' hk
 | copy x =>
  rw [Ef.app_copy] at hk
  exact zeq h hd' hk
 | cl v t e =>
  rw [Ef.app_cl] at hk
  rcases h with ⟨_,_,_,h⟩ | ⟨ss,x,ta,tb,args,tys,h1,h2,h3,h4⟩
  ·exact YD h (tk:=some (t,e)) (fun _ _ h=>by cases h; rfl) hd' hk
  ·refine Qy (dr:=true) hd (.inl ?_)
   unfold ZY
   rw [h1]
   simp only [h2,h3]
   exact znT h4 hk
def zxp (P:Program) (ops:Array Oper) (Q:St->Prop) (fuel:Nat) (listed:Array Bool) (st:St):Prop :=
 ∃ k o2 o3 o4 o5 o6,ops.size = k + 5/\fuel = 4/\ops[k]? = some o2/\ops[k + 1]? = some o3/\ops[k + 2]? = some o4/\ops[k + 3]? = some o5/\ops[k + 4]? = some o6/\zvP P o2 o3 o4 o5 o6 st Q/\rsB ops listed k = true /\
  (∀ i,i < k->ancB ops ops.size k i = true/\ancB ops ops.size (k + 2) i = true)/\∀ i,k <= i->listed.getD i true = true->ops.size <= i
def zqR (P:Program) (n':Nat) (ops:Array Oper) (Q:St->Prop):Nat->Array Bool->St->Prop
 | 0,listed,st=>Region.ready .any ops listed = []/\Q st
 | fuel + 1,listed,st=>((Region.ready .any ops listed = []->Q st)/\∀ i ∈ Region.ready .any ops listed,zbk P n' ops i (zqR P n' ops Q fuel (listed.setIfInBounds i true)) st) ∨ zxp P ops Q fuel listed st
theorem ZZ {ops:Array Oper} {K:St->Prop} (hall:∀ (i:Nat) (o:Oper),ops[i]? = some o->Qx n' o = true) {F:Fr} (hF:F.nt = n') {Q:Exit->Act->World->Prop}
  (hn:∀ st' a' w' pr' lam',K st'->zC P F st' a' w' pr' lam'->Q .normal a' w'):∀ (fuel:Nat) (listed:Array Bool) (st:St) (a:Act) (w:World) (pr:Nat->Nat->Prop) (lam:Nat->Option Nat),zC P F st a w pr lam ->
   zqR P n' ops K fuel listed st->wpAny P .any ops Q fuel listed a w
 | 0,_,st,a,w,pr,lam,hs,h=>⟨h.1,hn st a w pr lam h.2 hs⟩
 | fuel + 1,listed,st,a,w,pr,lam,hs,h=>by
  rcases h with h | ⟨_,_,_,_,_,_,_,_,_,_,_,_,_,hv,_⟩
  rotate_left
  ·exact hv.elim
  refine ⟨fun h0=>hn st a w pr lam (h.1 h0) hs,fun i hi=>?_⟩
  have hq:=h.2 i hi
  unfold zbk at hq
  unfold wpOp
  split
  ·rename_i ho; rw [ho] at hq; exact ZZ hall hF hn fuel _ st a w pr lam hs hq
  ·rename_i o ho
   rw [ho] at hq
   have hd:=YA (hall i o ho)
   rcases hq with ⟨G,⟨hg,hv⟩ | ⟨hg,rfl⟩,hk⟩ | ⟨_,hg,hk⟩
   ·rw [YB hs hg]
    simp only [if_true]
    left
    exact Ef.can_ok (K:=fun st'=>zqR P n' ops K fuel (listed.setIfInBounds i true) st') (hall i o ho) hv hk F a w pr lam hF hs _ _ fun st' a' w' pr' lam' hk' hs'=>ZZ hall hF hn fuel _ st' a' w' pr' lam' hs' hk'
   ·rw [YB hs hg]
    simp only [Bool.false_eq_true,if_false]
    rw [Ef.app_put] at hk
    exact ZZ hall hF hn fuel _ _ _ w pr lam (hs.putUn (by rw [hF]; exact hd)) hk
   ·rw [YB hs hg]
    simp only [if_true]
    left
    exact hk F a w pr lam hF hs _ _ fun st' a' w' pr' lam' hk' hs'=>ZZ hall hF hn fuel _ st' a' w' pr' lam' hs' hk'
theorem zdl {G:Ef} {dst:Option Nat} {st:St} {s:Nat} (h:dst ≠ some s):(G.app dst st).env s = st.env s:=by
 show (if dst = some s then _ else _:V × Option (Nat × TypeId)).1 = _
 rw [if_neg h]; rfl
theorem zgd {G:Ef} {dst:Option Nat} {st:St} {s:Nat} (h:dst ≠ some s):(G.app dst st).tok s = clT G.c (st.tok s):=by
 show (if dst = some s then _ else _:V × Option (Nat × TypeId)).2 = _
 rw [if_neg h]; rfl
theorem zei {dst:Option Nat} {ops:Array Oper} {o:Oper} (h:∀ d,dst = some d->d ∉ o.looksAt ops):∀ s,Operand.tmp s ∈ o.op.operands->dst ≠ some s:=by
 intro s hs hd
 have hd:=h s hd
 simp only [Oper.looksAt,List.mem_append,not_or] at hd
 apply hd.1
 rw [List.mem_filterMap]
 exact ⟨.tmp s,by simpa using hs,rfl⟩
theorem zbE {G:Ef} {dst:Option Nat} {st:St} {ops:Array Oper} {o:Oper} (h:∀ d,dst = some d->d ∉ o.looksAt ops) :
  (∀ x ∈ o.op.operands,(G.app dst st).eval x = st.eval x/\(G.app dst st).tokOf x = clT G.c (st.tokOf x))/\gdB (ops.toList.map (·.dst)) (G.app dst st) o.guard = gdB (ops.toList.map (·.dst)) st o.guard:=by
 constructor
 ·intro x hx
  cases x with
  | tmp t =>
   have hne:=zei h t hx
   exact ⟨zdl hne,zgd hne⟩
  | const v=>exact ⟨rfl,(zar _).symm⟩
  | global g=>exact ⟨rfl,(zar _).symm⟩
  | func f=>exact ⟨rfl,(zar _).symm⟩
 ·unfold gdB
  cases hg:o.guard with
  | none=>rfl
  | some gw =>
   obtain ⟨j,want⟩:=gw
   simp only
   cases hds:(ops.toList.map (·.dst))[j]? with
   | none=>rfl
   | some od =>
    cases od with
    | none=>rfl
    | some d' =>
     simp only
     have hne:dst ≠ some d':=by
      intro hq
      have hd:=h d' hq
      simp only [Oper.looksAt,List.mem_append,not_or] at hd
      apply hd.2
      rw [hg]
      rw [List.getElem?_map,Array.getElem?_toList] at hds
      cases ho:ops[j]? with
      | none=>rw [ho] at hds; simp at hds
      | some o' =>
       rw [ho] at hds
       simp at hds
       simp only [ho,zyP,hds]
       simp
     rw [zdl hne]
theorem QV.congr {o:Oper} {ρ ρ':Operand->V} {bx:Nat->Option Box} {v:V} {fr:Option (Nat × TypeId)} (hq:QV P o ρ bx v fr) (he:∀ x ∈ o.op.operands,ρ' x = ρ x):QV P o ρ' bx v fr :=
 fun a w pr lam h1 h2=>hq a w pr lam h1 fun x hx=>by rw [<- he x hx]; exact h2 x hx
theorem zdm {o:Oper} {ss:Nat} {x:Operand} {args:Array Operand} {tys:Array TypeId} (h1:o.op = .call { callee:=.builtin .append,args:=args,argTypes:=tys }) (h2:args.toList = [.tmp ss,x]) :
  Operand.tmp ss ∈ o.op.operands/\x ∈ o.op.operands:=by
 obtain ⟨l⟩:=args
 simp only at h2
 subst h2
 rw [h1]
 simp [Op.operands,Call.operands]
theorem QV.more {o:Oper} {ρ:Operand->V} {bx bx':Nat->Option Box} {v:V} {fr:Option (Nat × TypeId)} (hq:QV P o ρ bx v fr) (hb:∀ i B,bx i = some B->bx' i = some B):QV P o ρ bx' v fr :=
 fun a w pr lam h1 h2 h3=>hq a w pr lam h1 h2 fun i B hi=>h3 i B (hb i B hi)
theorem zuS.congr {o:Oper} {st st':St} {B:Box} (h:zuS P o st B) (he:∀ x ∈ o.op.operands,st'.eval x = st.eval x):zuS P o st' B:=by
 obtain ⟨v,n,h1,h2,h3,h4⟩:=h
 refine ⟨v,n,h1,h2,h3,?_⟩
 rcases h4 with ⟨x,h4,h5⟩ | h4
 ·exact .inl ⟨x,h4,by rw [he x (by rw [h4]; simp [Op.operands])]; exact h5⟩
 ·exact .inr h4
theorem zj3.stoO {o:Oper} {st:St} {k:Nat} {C:Box} (h:zj3 P o st k C):stoO o = true:=by
 obtain ⟨t,d,y,n,B,off,h1,_⟩:=h
 simp [Go.Eng.stoO,h1]
theorem zj3.newB {o:Oper} {st:St} {k:Nat} {C:Box} (h:zj3 P o st k C):newB o = false:=by
 obtain ⟨t,d,y,n,B,off,h1,_⟩:=h
 simp [Go.Eng.newB,h1]
theorem zj3.congr {o:Oper} {st st':St} {k:Nat} {C:Box} (h:zj3 P o st k C) (he:∀ x ∈ o.op.operands,st'.eval x = st.eval x) (hb:st'.box = st.box):zj3 P o st' k C:=by
 obtain ⟨t,d,y,n,B,off,h1,h2,h3,h4,h5,h6,h7,h8,h9⟩:=h
 have e1:st'.env d = st.env d:=he (.tmp d) (by rw [h1]; simp [Op.operands])
 have e2:st'.eval y = st.eval y:=he y (by rw [h1]; simp [Op.operands])
 exact ⟨t,d,y,n,B,off,h1,h2,e1.trans h3,by rw [hb]; exact h4,h5,h6,by rw [e2]; exact h7,h8,by rw [e2]; exact h9⟩
theorem Ef.can_app {o:Oper} {ops:Array Oper} {β:Nat->Option Box} {st:St} {G Gj:Ef} {dst:Option Nat} (h:∀ d,dst = some d->d ∉ o.looksAt ops) (hc:G.can P o β st)
  (hne:∀ v t e t',G = .cl v t e->Gj.c = some t'->t ≠ t') (hnn:∀ i B j C,G = .new i B->Gj = .new j C->i ≠ j) (hns:∀ i B k C,G = .new i B->Gj ≠ .sto k C) (hni:∀ k C,G ≠ .sto k C):G.can P o β (Gj.app dst st):=by
 have he:=(zbE (G:=Gj) (st:=st) h).1
 cases G with
 | put v=>obtain ⟨hn,fr,hc⟩:=hc; exact ⟨hn,fr,QV.congr hc fun x hx=>(he x hx).1⟩
 | copy x=>exact hc
 | sto k C=>exact absurd rfl (hni k C)
 | new i B =>
  obtain ⟨h1,h2,h3⟩:=hc
  refine ⟨h1,?_,h3.congr fun x hx=>(he x hx).1⟩
  cases Gj with
  | new j C=>show upd st.box j (some C) i = none; rw [Zx _ _ _ _ (hnn i B j C rfl rfl)]; exact h2
  | sto k C=>exact absurd rfl (hns i B k C rfl)
  | _=>exact h2
 | cl v t e =>
  rcases hc with ⟨h0,h1,h2,h3⟩ | ⟨ss,x,ta,tb,args,tys,h1,h2,h3,h4⟩
  ·exact .inl ⟨h0,h1,h2,QV.congr h3 fun x hx=>(he x hx).1⟩
  ·obtain ⟨m1,m2⟩:=zdm h1 h2
   have hs:=zei h ss m1
   obtain ⟨ht,hl⟩:=Yb h4
   refine .inr ⟨ss,x,ta,tb,args,tys,h1,h2,h3,?_⟩
   rw [zdl hs,zgd hs,(he x m2).1,ht,zlY hl fun t' hq=>hne v t e t' rfl hq,<- ht]
   exact h4
theorem Ef.can_back {o:Oper} {ops:Array Oper} {st:St} {G Gj:Ef} {dst:Option Nat} (h:∀ d,dst = some d->d ∉ o.looksAt ops) (hc:G.can P o (Gj.app dst st).box (Gj.app dst st))
  (hfr:∀ i B,Gj = .new i B->st.box i = none) (hnew:∀ i B,Gj = .new i B->newB o = true) (hni:∀ k C,Gj ≠ .sto k C):G.can P o st.box st:=by
 have he:=(zbE (G:=Gj) (st:=st) h).1
 have hbk:newB o = false->(Gj.app dst st).box = st.box:=by
  intro hn
  show Gj.bx st.box = st.box
  cases Gj with
  | new i B=>rw [hnew i B rfl] at hn; cases hn
  | sto k C=>exact absurd rfl (hni k C)
  | _=>rfl
 cases G with
 | put v =>
  obtain ⟨⟨hn,hs⟩,fr,hc⟩:=hc
  rw [hbk hn] at hc
  exact ⟨⟨hn,hs⟩,fr,QV.congr hc fun x hx=>((he x hx).1).symm⟩
 | copy x=>exact hc
 | sto k C=>exact hc.congr (fun x hx=>((he x hx).1).symm) (hbk hc.newB).symm
 | new i B =>
  obtain ⟨h1,h2,h3⟩:=hc
  refine ⟨h1,?_,h3.congr fun x hx=>((he x hx).1).symm⟩
  cases Gj with
  | new j C =>
   have h2':upd st.box j (some C) i = none:=h2
   by_cases e:i = j
   ·subst e; simp at h2'
   ·rw [Zx _ _ _ _ e] at h2'; exact h2'
  | sto k C=>exact absurd rfl (hni k C)
  | _=>exact h2
 | cl v t e =>
  have hn:newB o = false:=by
   rcases hc with ⟨h0,_⟩ | ⟨ss,x,ta,tb,args,tys,h1,_⟩
   ·unfold Qw at h0
    unfold newB
    split at h0 <;> simp_all
   ·simp [newB,h1]
  rcases hc with ⟨h0,h1,h2,h3⟩ | ⟨ss,x,ta,tb,args,tys,h1,h2,h3,h4⟩
  ·rw [hbk hn] at h3
   exact .inl ⟨h0,h1,h2,QV.congr h3 fun x hx=>((he x hx).1).symm⟩
  ·obtain ⟨m1,m2⟩:=zdm h1 h2
   have hs:=zei h ss m1
   obtain ⟨ht,hl⟩:=Yb h4
   refine .inr ⟨ss,x,ta,tb,args,tys,h1,h2,h3,?_⟩
   rw [zdl hs,ht,(he x m2).1] at h4
   rw [zgd hs] at ht
   rw [zlX ht]
   exact h4
theorem Ef.can.more {o:Oper} {β:Nat->Option Box} {st:St} {G:Ef} (h:G.can P o β st) (hb:∀ k B,β k = some B->st.box k = some B):G.can P o st.box st:=by
 cases G with
 | put v=>obtain ⟨h1,fr,h2⟩:=h; exact ⟨h1,fr,h2.more hb⟩
 | copy x=>exact h
 | new i B=>exact h
 | sto k C=>exact h
 | cl v t e =>
  rcases h with ⟨h0,h1,h2,h3⟩ | h
  ·exact .inl ⟨h0,h1,h2,h3.more hb⟩
  ·exact .inr h
theorem zcs.more {ops:Array Oper} {o:Oper} {β:Nat->Option Box} {st:St} {G:Ef} (h:zcs P ops o G β st) (hb:∀ k B,β k = some B->st.box k = some B):zcs P ops o G st.box st:=by
 rcases h with ⟨h1,h2⟩ | h
 ·exact .inl ⟨h1,h2.more hb⟩
 ·exact .inr h
def zi7 (ops:Array Oper) (i:Nat) (β:Nat->Option Box) (listed:Array Bool) (st:St):Prop :=
 (∀ k B,β k = some B->st.box k = some B)/\∀ (m:Nat) (om:Oper) (d:Nat),ops[m]? = some om->newB om = true->om.guard = none->om.dst = some d->i < m->listed.getD m true = true->∃ k,st.env d = .loc k 0/\β k = none
def zgw (ops:Array Oper) (j:Nat):Bool:=match ops[j]? with
 | some o=>(match o.op,o.guard with
  | .store _ (.tmp d) _,none=>(List.range ops.size).any fun m=>(match ops[m]? with
   | some om=>newB om && (match om.guard with | none=>true | some _=>false) && (match om.dst with | some d'=>Nat.beq d' d | none=>false) && ancB ops ops.size j m
   | none=>false) && (List.range ops.size).all fun i=>Nat.beq i j || (bif Nat.blt i j then ancB ops ops.size j i || Nat.blt i m else ancB ops ops.size i j)
  | _,_=>false)
 | none=>false
theorem zgx {ops:Array Oper} {j:Nat} {o:Oper} (ho:ops[j]? = some o) (h:zgw ops j = true):∃ t d y m om,o.op = .store t (.tmp d) y/\o.guard = none/\ops[m]? = some om/\newB om = true/\om.guard = none/\om.dst = some d/\ancB ops ops.size j m = true /\
  ∀ i,i < ops.size->i = j ∨ (i < j/\(ancB ops ops.size j i = true ∨ i < m)) ∨ (j < i/\ancB ops ops.size i j = true):=by
 unfold zgw at h
 rw [ho] at h
 simp only at h
 split at h
 ·rename_i t d y h1 h2
  rw [List.any_eq_true] at h
  obtain ⟨m,hm,h⟩:=h
  rw [zyL] at h
  obtain ⟨h3,h4⟩:=h
  split at h3
  ·rename_i om hom
   simp only [zyL] at h3
   obtain ⟨⟨⟨a1,a2⟩,a3⟩,a4⟩:=h3
   refine ⟨t,d,y,m,om,h1,h2,hom,a1,?_,?_,a4,fun i hi=>?_⟩
   ·split at a2
    ·assumption
    ·cases a2
   ·split at a3
    ·rename_i d' hd'
     rw [hd',Nat.eq_of_beq_eq_true a3]
    ·cases a3
   ·rw [zyS] at h4
    have:=h4 i (by simpa using hi)
    rw [Bool.or_eq_true] at this
    rcases this with this | this
    ·exact .inl (Nat.eq_of_beq_eq_true this)
    ·cases hb:Nat.blt i j with
     | true =>
      rw [hb] at this
      simp only [cond_true,Bool.or_eq_true] at this
      have hlt:i < j:=Nat.le_of_ble_eq_true hb
      rcases this with this | this
      ·exact .inr (.inl ⟨hlt,.inl this⟩)
      ·exact .inr (.inl ⟨hlt,.inr (Nat.le_of_ble_eq_true this)⟩)
     | false =>
      rw [hb] at this
      simp only [cond_false] at this
      have hge:¬ i < j:=fun q=>by
       have:Nat.blt i j = true:=Nat.ble_eq_true_of_le q
       rw [this] at hb; cases hb
      by_cases e:i = j
      ·exact .inl e
      ·exact .inr (.inr ⟨by omega,this⟩)
  ·cases h3
 ·cases h
def Inv (ops:Array Oper) (listed:Array Bool) (st:St):Prop :=
 ∀ (j:Nat) (oj:Oper) (d:Nat),ops[j]? = some oj->listed.getD j true = false->Qw oj = true->oj.dst = some d->∀ s t e,st.tok s = some (t,e)->tcl t < 2->t % 1000000 ≠ d
theorem YH (listed:Array Bool) (i:Nat):(listed.setIfInBounds i true).getD i true = true:=by
 rcases Nat.lt_or_ge i listed.size with h | h
 ·simp [h]
 ·simp [h]
theorem Inv.step {ops:Array Oper} {listed:Array Bool} {st:St} {i:Nat} {oi:Oper} {G:Ef} (hI:Inv ops listed st) (hdd:∀ (j k:Nat) (a b:Oper) (d:Nat),ops[j]? = some a->ops[k]? = some b->a.dst = some d->b.dst = some d->j = k)
  (hoi:ops[i]? = some oi) {β:Nat->Option Box} (hy:zcs P ops oi G β st):Inv ops (listed.setIfInBounds i true) (G.app oi.dst st):=by
 intro j oj d hoj hl hno hdj s t e ht h2
 have hji:i ≠ j:=by
  rintro rfl
  rw [YH] at hl; cases hl
 rw [getD_set_ne true hji] at hl
 by_cases hs:oi.dst = some s
 ·have ht':G.tk st = some (t,e):=by
   have:(G.app oi.dst st).tok s = G.tk st:=by
    show (if oi.dst = some s then _ else _:V × Option (Nat × TypeId)).2 = _
    rw [if_pos hs]
   rw [<- this]; exact ht
  rcases hy with ⟨_,hc⟩ | ⟨_,rfl⟩
  ·cases G with
   | put v=>cases ht'
   | new i B=>cases ht'
   | sto k C=>cases ht'
   | copy x =>
    cases x with
    | tmp s'=>exact hI j oj d hoj hl hno hdj s' t e ht' h2
    | const v=>cases ht'
    | global g=>cases ht'
    | func f=>cases ht'
   | cl v t' e' =>
    simp only [Ef.tk,zyO,Prod.mk.injEq] at ht'
    obtain ⟨rfl,rfl⟩:=ht'
    rcases hc with ⟨_,h1,_,_⟩ | ⟨ss,x,ta,tb,args,tys,h1,h2',h3,h4⟩
    ·intro hq
     rw [hq] at h1
     exact hji (hdd i j oi oj d hoi hoj h1 hdj)
    ·exact hI j oj d hoj hl hno hdj ss _ _ (Yb h4).1 h2
  ·cases ht'
 ·rw [zgd hs] at ht
  exact hI j oj d hoj hl hno hdj s t e (zlX ht) h2
theorem zqS {ops:Array Oper} {listed:Array Bool} {i j:Nat} {oi oj:Oper} {G:Ef} (hoi:ops[i]? = some oi) (hoj:ops[j]? = some oj) (hqj:¬ (ql oj = true/\pinned ops j = true)) (hnw:newB oi = true->newB oj = true) (hnsi:stoO oi = false) (hcl0:Cl ops listed) (hsj:stoO oj = true->¬ pinned ops j = true->zgw ops j = true) (hij:i ≠ j) (hir:∀ e ∈ oi.after,Region.binds .any e = true->listed.getD e.on false = true) (hjr:∀ e ∈ oj.after,Region.binds .any e = true->listed.getD e.on false = true) {β:Nat->Option Box} (hap:oi.apart ops oj = true)
  (hdd:∀ (j k:Nat) (a b:Oper) (d:Nat),ops[j]? = some a->ops[k]? = some b->a.dst = some d->b.dst = some d->j = k)
  (hli:listed.getD i true = false) (hlj:listed.getD j true = false) (hna:¬(QW oi = true/\QW oj = true)) {K:St->Prop} {st:St} (hI:Inv ops listed st) (hF:zi7 ops i β listed st) (hy:zcs P ops oi G β st)
  (h:zbk P n' ops j K (G.app oi.dst st)):zbk P n' ops j (fun st'=>Inv ops (listed.setIfInBounds j true) st'/\zi7 ops i β (listed.setIfInBounds j true) st'/\zcs P ops oi G β st'/\K (G.app oi.dst st')) st:=by
 obtain ⟨h1,h2,h3⟩:=Oper.apart_spec hap
 unfold zbk at h ⊢
 rw [hoj] at h ⊢
 simp only at h ⊢
 rcases h with ⟨Gj,hyj,hk⟩ | ⟨hh,_⟩
 rotate_left
 ·exact absurd hh hqj
 have e1:=zbE (G:=G) (st:=st) h1
 have hGs:∀ k C,G ≠ .sto k C:=by
  rintro k C rfl
  rcases hy with ⟨_,q⟩ | ⟨_,q⟩
  ·rw [q.stoO] at hnsi; cases hnsi
  ·cases q
 have hfi:∀ i B,G = .new i B->st.box i = none/\newB oi = true:=by
  rintro i B rfl
  rcases hy with ⟨_,q⟩ | ⟨_,q⟩
  ·exact ⟨q.2.1,q.1⟩
  ·cases q
 have hnn:∀ i B j C,G = .new i B->Gj = .new j C->i ≠ j:=by
  rintro i B j C rfl rfl rfl
  rcases hyj with ⟨_,q⟩ | ⟨_,q⟩
  ·have:=q.2.1
   change upd st.box i (some B) i = none at this
   simp at this
  ·cases q
 have hyj':zcs P ops oj Gj st.box st:=by
  rcases hyj with ⟨q1,q2⟩ | ⟨q1,q2⟩
  ·exact .inl ⟨e1.2 ▸ q1,Ef.can_back h1 q2 (fun i B hg=>(hfi i B hg).1) (fun i B hg=>hnw (hfi i B hg).2) hGs⟩
  ·exact .inr ⟨e1.2 ▸ q1,q2⟩
 have e2:=zbE (G:=Gj) (st:=st) h3
 have hfj:∀ i B,Gj = .new i B->st.box i = none:=by
  rintro i B rfl
  rcases hyj' with ⟨_,q⟩ | ⟨_,q⟩
  ·exact q.2.1
  ·cases q
 have hns:∀ i B k C,G = .new i B->Gj ≠ .sto k C:=by
  rintro i B k C hg rfl
  have h1:=hnw (hfi i B hg).2
  rcases hyj' with ⟨_,q⟩ | ⟨_,q⟩
  ·rw [q.newB] at h1; cases h1
  ·cases q
 have hne:∀ vi ti ei vj tj ej,G = .cl vi ti ei->Gj = .cl vj tj ej->ti ≠ tj:=by
  rintro vi ti ei vj tj ej rfl rfl rfl
  have ci:(Ef.cl vi ti ei).can P oi β st:=by
   rcases hy with ⟨_,q⟩ | ⟨_,q⟩
   ·exact q
   ·cases q
  have cj:(Ef.cl vj ti ej).can P oj st.box st:=by
   rcases hyj' with ⟨_,q⟩ | ⟨_,q⟩
   ·exact q
   ·cases q
  rcases ci with ⟨i0,i1,i2,_⟩ | ⟨ss,x,ta,tb,args,tys,i1,i2,i3,i4⟩
  ·rcases cj with ⟨j0,j1,j2,_⟩ | ⟨ss,x,ta,tb,args,tys,j1,j2,j3,j4⟩
   ·exact h2 _ i1 j1
   ·obtain ⟨q1,q2⟩:=Yb j4
    exact hI i oi _ hoi hli i0 i1 ss ti ej q1 q2 rfl
  ·rcases cj with ⟨j0,j1,j2,_⟩ | ⟨ss',x',ta',tb',args',tys',j1,j2,j3,j4⟩
   ·obtain ⟨q1,q2⟩:=Yb i4
    exact hI j oj _ hoj hlj j0 j1 ss ti ei q1 q2 rfl
   ·exact hna ⟨by simp [QW,i1],by simp [QW,j1]⟩
 have hcl:∀ (A:Ef) {t':Nat},A.c = some t'->∃ v e,A = .cl v t' e:=by
  intro A t' ha
  cases A <;> simp [Ef.c] at ha
  subst ha; exact ⟨_,_,rfl⟩
 have hF':zi7 ops i β (listed.setIfInBounds j true) (Gj.app oj.dst st):=by
  constructor
  ·intro k B hb
   have hC:=hF.1 k B hb
   show Gj.bx st.box k = some B
   cases Gj with
   | new i' B' =>
    have:=hfj i' B' rfl
    show upd st.box i' (some B') k = some B
    rw [Zx _ _ _ _ (by rintro rfl; rw [hC] at this; cases this)]
    exact hC
   | sto k' C' =>
    show upd st.box k' (some C') k = some B
    have hk':β k' = none:=by
     have q:zj3 P oj st k' C':=by
      rcases hyj' with ⟨_,q⟩ | ⟨_,q⟩
      ·exact q
      ·cases q
     have hso:=q.stoO
     have hhard:ql oj = true:=by
      unfold stoO at hso
      unfold ql
      split at hso
      ·rename_i ho; rw [ho]
      ·cases hso
     obtain ⟨t,d,y,m,om,r1,r2,r3,r4,r5,r6,r7,r8⟩:=zgx hoj (hsj hso fun hp=>hqj ⟨hhard,hp⟩)
     obtain ⟨t',d',y',n,B0,off,u1,_,u3,_⟩:=q
     rw [r1] at u1
     cases u1
     have hml:listed.getD m false = true:=anc_listed hcl0 _ j r7 fun oj' ho' e he hb=>by rw [hoj] at ho'; cases ho'; exact hjr e he hb
     have hml':listed.getD m true = true:=by
      rcases Nat.lt_or_ge m listed.size with h' | h'
      ·simp [h'] at hml ⊢; exact hml
      ·simp [Array.getElem?_eq_none h'] at hml
     have him:i < m:=by
      rcases r8 i (Array.getElem?_eq_some_iff.1 hoi).1 with e | ⟨_,e | e⟩ | ⟨_,e⟩
      ·exact absurd e hij
      ·have hl:=anc_listed hcl0 _ j e fun oj' ho' e he hb=>by rw [hoj] at ho'; cases ho'; exact hjr e he hb
       rw [unlisted_of hli] at hl; cases hl
      ·exact e
      ·have hl:=anc_listed hcl0 _ i e fun oj' ho' e he hb=>by rw [hoi] at ho'; cases ho'; exact hir e he hb
       rw [unlisted_of hlj] at hl; cases hl
     obtain ⟨k0,w1,w2⟩:=hF.2 m om d r3 r4 r5 r6 him hml'
     rw [w1] at u3
     cases u3
     exact w2
    rw [Zx _ _ _ _ (by rintro rfl; rw [hk'] at hb; cases hb)]
    exact hC
   | _=>exact hC
  ·intro m om d hom hn hg hd him hl
   by_cases e:j = m
   ·subst e
    rw [hoj] at hom; cases hom
    have hw:gdB (ops.toList.map (·.dst)) st oj.guard = some true:=by rw [hg]; rfl
    rcases hyj' with ⟨_,q⟩ | ⟨q,_⟩
    ·cases Gj with
     | new k B =>
      refine ⟨k,?_,?_⟩
      ·rw [hd]
       show (if some d = some d then _ else _:V × Option (Nat × TypeId)).1 = _
       rw [if_pos rfl]; rfl
      ·cases hb:β k with
       | none=>rfl
       | some B0 =>
        have hC:=hF.1 k B0 hb
        have:=q.2.1
        rw [hC] at this; cases this
     | put v =>
      have:=q.1.1
      rw [hn] at this; cases this
     | copy x=>rcases q with q | q <;> simp [newB,q] at hn
     | sto k C=>rw [q.newB] at hn; cases hn
     | cl v t e =>
      exfalso
      rcases q with ⟨h0,_⟩ | ⟨ss,x,ta,tb,args,tys,h1,_⟩
      ·unfold Qw at h0
       unfold newB at hn
       split at h0 <;> simp_all
      ·simp [newB,h1] at hn
    ·rw [hw] at q; cases q
   ·rw [getD_set_ne true e] at hl
    obtain ⟨k,q1,q2⟩:=hF.2 m om d hom hn hg hd him hl
    refine ⟨k,?_,q2⟩
    have hne:oj.dst ≠ some d:=fun hq=>e (hdd j m oj om d hoj hom hq hd)
    rw [zdl hne]
    exact q1
 refine .inl ⟨Gj,hyj',hI.step hdd hoj hyj',hF',?_,?_⟩
 ·rcases hy with ⟨q1,q2⟩ | ⟨q1,q2⟩
  ·refine .inl ⟨e2.2 ▸ q1,Ef.can_app h3 q2 (fun v t e t' hg hc=>?_) hnn hns hGs⟩
   obtain ⟨v',e',rfl⟩:=hcl Gj hc
   exact hne _ _ _ _ _ _ hg rfl
  ·exact .inr ⟨e2.2 ▸ q1,q2⟩
 ·have hop:∀ (A:Ef) (o:Oper) (β:Nat->Option Box) (st:St),zcs P ops o A β st->∀ x,A = .copy x->x ∈ o.op.operands:=by
   rintro A o β st hy x rfl
   rcases hy with ⟨_,q⟩ | ⟨_,q⟩
   ·rcases q with q | q <;> simp [q,Op.operands]
   ·cases q
  have hlt:∀ (A:Ef) (o:Oper) (β:Nat->Option Box) (st:St),zcs P ops o A β st->∀ v t e,A = .cl v t e->tcl t < 2:=by
   rintro A o β st hy v t e rfl
   rcases hy with ⟨_,q⟩ | ⟨_,q⟩
   ·rcases q with ⟨_,_,q,_⟩ | ⟨ss,x,ta,tb,args,tys,i1,i2,i3,i4⟩
    ·exact q
    ·exact (Yb i4).2
   ·cases q
  have key:∀ (A B:Ef) (o:Oper) (β:Nat->Option Box) (dst:Option Nat),(∀ d,dst = some d->d ∉ o.looksAt ops)->zcs P ops o A β st->(∀ v t e v' t' e',A = .cl v t e->B = .cl v' t' e'->t ≠ t') ->
    A.val (B.app dst st) = A.val st/\A.tk (B.app dst st) = clT B.c (A.tk st):=by
   intro A B o β dst hd hy hne
   have e:=(zbE (G:=B) (st:=st) hd).1
   cases A with
   | put v=>exact ⟨rfl,(zar _).symm⟩
   | new i B=>exact ⟨rfl,(zar _).symm⟩
   | sto k C=>exact ⟨rfl,(zar _).symm⟩
   | copy x=>exact e x (hop _ _ _ _ hy x rfl)
   | cl v t e' =>
    refine ⟨rfl,(zlY (hlt _ _ _ _ hy v t e' rfl) fun t' hc=>?_).symm⟩
    obtain ⟨v',e'',rfl⟩:=hcl B hc
    exact hne _ _ _ _ _ _ rfl rfl
  obtain ⟨a1,a2⟩:=key G Gj oi _ oj.dst h3 hy hne
  obtain ⟨b1,b2⟩:=key Gj G oj _ oi.dst h1 hyj' fun v t e v' t' e' q1 q2 q3=>hne _ _ _ _ _ _ q2 q1 q3.symm
  rw [<- Ef.comm (Gi:=G) (Gj:=Gj) h2 a1 b1 a2 b2 hnn hns hGs]
  exact hk
theorem zgy {ops:Array Oper} {Q:St->Prop} {i:Nat} {oi:Oper} {G:Ef} {β:Nat->Option Box} (hi:ops[i]? = some oi) (hnsi:stoO oi = false)
  (hsto:∀ (j:Nat) (oj:Oper),ops[j]? = some oj->stoO oj = true->¬ pinned ops j = true->zgw ops j = true)
  (hch:∀ (j k:Nat) (a b:Oper),ops[j]? = some a->ops[k]? = some b->QW a = true->QW b = true->j ≠ k->zgc ops j k)
  (hdd:∀ (j k:Nat) (a b:Oper) (d:Nat),ops[j]? = some a->ops[k]? = some b->a.dst = some d->b.dst = some d->j = k) :
  ∀ (fuel:Nat) (listed:Array Bool) (st:St),Cl ops listed ->
   (∀ (j:Nat) (oj:Oper),ops[j]? = some oj->j ≠ i->listed.getD j true = false->(∀ e ∈ oj.after,Region.binds .any e = true->e.on ≠ i)->oi.apart ops oj = true) ->
   (newB oi = true->∀ (j:Nat) (oj:Oper),ops[j]? = some oj->j ≠ i->listed.getD j true = false->newB oj = true ∨ ancB ops ops.size j i = true) ->
   i ∈ Region.ready .any ops listed->Inv ops listed st->zi7 ops i β listed st->zcs P ops oi G β st ->
   zqR P n' ops Q fuel (listed.setIfInBounds i true) (G.app oi.dst st)->zqR P n' ops Q (fuel + 1) listed st:=by
 have step:∀ {K:St->Prop} {st:St} {listed:Array Bool},zi7 ops i β listed st->zcs P ops oi G β st->K (G.app oi.dst st)->zbk P n' ops i K st:=by
  intro K st listed hF hy hk
  unfold zbk
  rw [hi]
  exact .inl ⟨G,hy.more hF.1,hk⟩
 intro fuel
 induction fuel with
 | zero =>
  intro listed st _ _ _ hr _ hF hy H
  refine .inl ⟨fun h=>(by rw [h] at hr; cases hr),fun j hj=>?_⟩
  by_cases hji:j = i
  ·subst hji; exact step hF hy H
  ·have:=ready_mono hj hji
   rw [H.1] at this
   cases this
 | succ fuel ih =>
  intro listed st hcl hfree hnw hr hI hF hy H
  refine .inl ⟨fun h=>(by rw [h] at hr; cases hr),fun j hj=>?_⟩
  by_cases hji:j = i
  ·subst hji; exact step hF hy H
  ·have h1:=((H.resolve_right fun ⟨k,o2,o3,o4,o5,o6,hsz,_,_,_,_,_,_,_,hrs,hpin',hun⟩=>by
    have hj':=ready_mono hj hji
    have hiun:=(mem_ready.1 hr).1
    have hik:i < k:=by
     rcases Nat.lt_or_ge i k with q | q
     ·exact q
     ·have hsi:=hun i q (YH listed i)
      have:=(Array.getElem?_eq_some_iff.1 hi).1
      omega
    have hrd:Region.ready .any ops (listed.setIfInBounds i true) = [k,k + 2]:=by
     simp only [rsB,zyL,beq_iff_eq] at hrs
     exact hrs.1.1.1.1.1.1.1.1.1.1.1.1.1.1.1.1.1.1.1.1.1.1.1.1
    rw [hrd] at hj'
    obtain ⟨_,oj,hoj,hall⟩:=mem_ready.1 hj
    have hanc:ancB ops ops.size j i = true:=by
     rcases List.mem_cons.1 hj' with rfl | hj'
     ·exact (hpin' i hik).1
     ·rw [List.mem_singleton] at hj'; subst hj'; exact (hpin' i hik).2
    have hli:=anc_listed hcl _ j hanc fun oj' ho' e he hb=>by rw [hoj] at ho'; cases ho'; exact hall e he hb
    rw [unlisted_of hiun] at hli
    cases hli).2) j (ready_mono hj hji)
   obtain ⟨hjun,oj,hoj,hall⟩:=mem_ready.1 hj
   have hiun:=(mem_ready.1 hr).1
   have hnot:∀ e ∈ oj.after,Region.binds .any e = true->e.on ≠ i:=fun e he hb heq=>by
    have h1:=hall e he hb
    have h0:=(mem_ready.1 hr).1
    rw [heq] at h1
    rcases Nat.lt_or_ge i listed.size with h' | h'
    ·simp [h'] at h0 h1; rw [h0] at h1; cases h1
    ·simp [Array.getElem?_eq_none h'] at h1
   have hqj:¬ (ql oj = true/\pinned ops j = true):=fun hq=>absurd (zdk hcl hq.2 hr hj) (Ne.symm hji)
   have hnwj:newB oi = true->newB oj = true:=fun hn=>by
    rcases hnw hn j oj hoj hji hjun with q | q
    ·exact q
    ·have hli:=anc_listed hcl _ j q fun oj' ho' e he hb=>by rw [hoj] at ho'; cases ho'; exact hall e he hb
     rw [unlisted_of hiun] at hli
     cases hli
   have hna:¬(QW oi = true/\QW oj = true):=fun ⟨q1,q2⟩=>ziu hcl (hch i j oi oj hi hoj q1 q2 (Ne.symm hji)) hr hj
   have hiall:∀ e ∈ oi.after,Region.binds .any e = true->listed.getD e.on false = true:=by
    obtain ⟨_,oi',hoi',hall'⟩:=mem_ready.1 hr
    rw [hi] at hoi'; cases hoi'
    exact hall'
   have h2:=zqS hi hoj hqj hnwj hnsi hcl (hsto j oj hoj) (Ne.symm hji) hiall hall (hfree j oj hoj hji hjun hnot) hdd hiun hjun hna hI hF hy h1
   have hfree':∀ (k:Nat) (ok:Oper),ops[k]? = some ok->k ≠ i->(listed.setIfInBounds j true).getD k true = false ->
     (∀ e ∈ ok.after,Region.binds .any e = true->e.on ≠ i)->oi.apart ops ok = true:=fun k ok hk hki hun hno=>by
    refine hfree k ok hk hki ?_ hno
    by_cases hjk:j = k
    ·subst hjk; exact hjun
    ·rw [getD_set_ne true hjk] at hun; exact hun
   have hnw':newB oi = true->∀ (k:Nat) (ok:Oper),ops[k]? = some ok->k ≠ i->(listed.setIfInBounds j true).getD k true = false->newB ok = true ∨ ancB ops ops.size k i = true:=fun hn k ok hk hki hun=>by
    refine hnw hn k ok hk hki ?_
    by_cases hjk:j = k
    ·subst hjk; exact hjun
    ·rw [getD_set_ne true hjk] at hun; exact hun
   refine znU (fun st' h3=>ih (listed.setIfInBounds j true) st' (hcl.step hj) hfree' hnw' (ready_mono hr (Ne.symm hji)) h3.1 h3.2.1 h3.2.2.1 ?_) h2
   rw [Array.setIfInBounds_comm _ _ hji]
   exact h3.2.2.2
theorem zr8 {o:Oper} {st:St} {K:St->Prop} (hd:Qx n' o = true) (hq:ql o = false) (h:zfR P true o st K):∃ G:Ef,G.can P o st.box st/\K (G.app o.dst st):=by
 have hsb:stoO o = false:=by
  unfold stoO
  unfold ql at hq
  split <;> simp_all
 have hnb:newB o = false:=by
  unfold newB
  unfold ql at hq
  split <;> simp_all
 replace h:ZY P true o st K:=by
  rcases h with h | ⟨h,_⟩
  ·exact h
  ·cases h
 unfold ZY at h
 split at h
 ·rename_i ho; simp [ql,ho] at hq
 ·rename_i ho; simp [ql,ho] at hq
 ·rename_i ho; simp [ql,ho] at hq
 ·rename_i args tys ho
  split at h
  ·rename_i ss x t u ha ht
   obtain ⟨v,tk,e,h1,h2⟩:=znS h
   exact ⟨.cl v tk e,.inr ⟨ss,x,t,u,args,tys,ho,ha,ht,h1⟩,by rw [Ef.app_cl]; exact h2⟩
  ·exact h.elim
 ·rename_i ho; simp [ql,ho] at hq
 ·rename_i ho; simp [ql,ho] at hq
 ·rename_i f args tys ho
  unfold zgb at h
  split at h
  ·rename_i g first cap hf
   rcases h with ⟨h1,h2,res,h3,h4⟩ | ⟨h,_⟩
   ·exact ⟨.put res,⟨⟨by simp [newB,ho],hsb⟩,none,zkf ho hf h1 h2 h3⟩,by rw [Ef.app_put]; exact h4⟩
   ·cases h
  ·exact h.elim
 ·obtain ⟨v,tk,q1,q2,q3⟩:=zfc (zbC hd) h
  unfold zj1 at q3
  rcases q1 with ⟨hc,fr,hv,ht⟩ | ⟨hc,x,hx,rfl,rfl⟩
  ·rw [hc] at q3
   simp only [cond_false] at q3
   cases tk with
   | none=>exact ⟨.put v,⟨⟨hnb,hsb⟩,fr,hv⟩,by rw [Ef.app_put]; exact q3⟩
   | some te =>
    obtain ⟨t,e⟩:=te
    obtain ⟨r0,r1,r2⟩:=q2 rfl hc t e rfl
    have:=ht t e rfl
    subst this
    exact ⟨.cl v t e,.inl ⟨r0,r1,r2,hv⟩,by rw [Ef.app_cl]; exact q3⟩
  ·rw [hc] at q3
   exact ⟨.copy x,hx,by rw [Ef.app_copy]; exact q3⟩
theorem zr9 {o:Oper} {st:St} {K:St->Prop} (hq:newB o = true) (h:zfR P true o st K):∃ G:Ef,G.can P o st.box st/\K (G.app o.dst st):=by
 replace h:ZY P true o st K:=by
  rcases h with h | ⟨h,_⟩
  ·exact h
  ·cases h
 unfold ZY at h
 split at h
 ·rename_i e x ho
  obtain ⟨h0,h1,h2,h3⟩:=h
  obtain ⟨n,hn⟩:=Option.isSome_iff_exists.1 h1
  refine ⟨.new st.nb ⟨(st.eval x).cellsL,e⟩,⟨hq,h2,st.eval x,n,hn,rfl,h0,.inl ⟨x,ho,rfl⟩⟩,?_⟩
  rw [Ef.app_new]; exact h3
 ·rename_i e ho
  split at h
  ·rename_i v hz
   obtain ⟨h0,h1,h2,h3⟩:=h
   obtain ⟨n,hn⟩:=Option.isSome_iff_exists.1 h1
   refine ⟨.new st.nb ⟨v.cellsL,e⟩,⟨hq,h2,v,n,hn,rfl,h0,.inr ⟨ho,hz⟩⟩,?_⟩
   rw [Ef.app_new]; exact h3
  ·exact h.elim
 all_goals (unfold newB at hq; split at hq <;> simp_all)
theorem zsa {o:Oper} {st:St} {K:St->Prop} {t:TypeId} {d:Nat} {y:Operand} (ho:o.op = .store t (.tmp d) y) (h:zfR P true o st K):∃ G:Ef,G.can P o st.box st/\K (G.app o.dst st):=by
 replace h:ZY P true o st K:=by
  rcases h with h | ⟨h,_⟩
  ·exact h
  ·cases h
 unfold ZY at h
 rw [ho] at h
 simp only at h
 unfold QU at h
 split at h
 ·rename_i i off hx
  split at h
  ·rename_i B n hB hs
   obtain ⟨h0,h1,h2,h3,h4⟩:=h
   refine ⟨.sto i _,⟨t,d,y,n,B,off,ho,h3,hx,hB,h0,hs,h1,h2,rfl⟩,?_⟩
   rw [h3,Ef.app_sto]; exact h4
  ·exact h.elim
 ·exact h.elim
theorem Qf {st:St} {dst:Option Nat} {v:V} {s t:Nat} {e:TypeId} (h:(st.put dst v none).tok s = some (t,e)):st.tok s = some (t,e):=by
 cases dst with
 | none=>exact h
 | some d =>
  rw [St.tok_put] at h
  unfold upd at h
  split at h
  ·cases h
  ·exact h
theorem zqT {o:Oper} {st:St} {K:St->Prop} (hq:ql o = true) (h:zfR P true o st K):zfR P true o st fun st'=>K st'/\∀ s t e,st'.tok s = some (t,e)->st.tok s = some (t,e):=by
 replace h:ZY P true o st K:=by
  rcases h with h | ⟨h,_⟩
  ·exact h
  ·cases h
 refine .inl ?_
 unfold ZY at h ⊢
 split at h
 ·obtain ⟨h0,h1,h2,h3⟩:=h
  exact ⟨h0,h1,h2,h3,fun s t e ht=>Qf (st:=st.newBox _ _) ht⟩
 ·split at h
  ·obtain ⟨h0,h1,h2,h3⟩:=h
   exact ⟨h0,h1,h2,h3,fun s t e ht=>Qf (st:=st.newBox _ _) ht⟩
  ·exact h.elim
 ·unfold QU at h ⊢
  split at h
  ·split at h
   ·rename_i B n hB hs
    simp only [hB,hs]
    obtain ⟨h0,h1,h2,h3,h4⟩:=h
    exact ⟨h0,h1,h2,h3,h4,fun s t e ht=>ht⟩
   ·exact h.elim
  ·exact h.elim
 ·rename_i ho; simp [ql,ho] at hq
 ·obtain ⟨h1,h2⟩:=h
  exact ⟨h1,h2,fun s t e ht=>Qf (st:=st.newBox _ _) ht⟩
 ·unfold zbB at h ⊢
  split at h
  ·rename_i i kt et hm hT
   split at h
   ·rename_i B ag ks hB hk
    simp only [hB,hk]
    obtain ⟨h0,h1,h2,h3,h4,h5⟩:=h
    exact ⟨h0,h1,h2,h3,h4,h5,fun s t e ht=>ht⟩
   ·exact h.elim
  ·exact h.elim
 ·rename_i ho; simp [ql,ho] at hq
 ·rename_i n1 n2 n3 n4 n5 n6 n7
  unfold ql at hq
  split at hq
  ·rename_i ho; exact absurd ho (n1 _ _)
  ·rename_i ho; exact absurd ho (n2 _)
  ·rename_i ho; exact absurd ho (n3 _ _ _)
  ·rename_i ho; exact absurd ho (n6 _ _ _ _)
  ·rename_i t r ho
   cases r with
   | none=>exact absurd ho (n5 _)
   | some x=>simp only [Zh,ho] at h
  ·cases hq
def zsb (ops:Array Oper):Bool:=(List.range ops.size).all (fun j=>match ops[j]? with
 | some o=>!ql o || pinned ops j || zgw ops j || (newB o && (List.range ops.size).all fun k=>Nat.ble k j || ancB ops ops.size k j || (match ops[k]? with | some ok=>newB ok | none=>true))
 | none=>true) && (List.range ops.size).all fun j=>(List.range ops.size).all fun k=>match ops[j]?,ops[k]? with
  | some a,some b=>Nat.beq j k || ((match a.dst,b.dst with | some d,some d'=>!Nat.beq d d' | _,_=>true) && (!(QW a && QW b) || ancB ops ops.size j k || ancB ops ops.size k j))
  | _,_=>true
def lst (n k:Nat):Array Bool:=(List.range k).foldl (fun l i=>l.setIfInBounds i true) (Array.replicate n false)
theorem zgz (n k:Nat):(lst n k).setIfInBounds k true = lst n (k + 1):=by
 unfold lst
 rw [List.range_succ,List.foldl_append]
 rfl
theorem znV (n:Nat):∀ (k i:Nat),i < k->(lst n k).getD i true = true
 | 0,i,h=>by omega
 | k + 1,i,h=>by
  rw [<- zgz]
  by_cases q:k = i
  ·subst q; exact YH _ _
  ·rw [getD_set_ne true q]
   exact znV n k i (by omega)
theorem zl1 (n:Nat):∀ (k i:Nat),k <= i->(lst n k).getD i true = true->n <= i
 | 0,i,_,h=>by
  rcases Nat.lt_or_ge i n with q | q
  ·simp [lst,q] at h
  ·exact q
 | k + 1,i,hk,h=>by
  rw [<- zgz,getD_set_ne true (by omega)] at h
  exact zl1 n k i (by omega) h
def zp3 (ops:Array Oper):Bool:=zsb ops
theorem znW {ops:Array Oper} (h:zp3 ops = true):(∀ (j:Nat) (oj:Oper),ops[j]? = some oj->ql oj = true->pinned ops j = true ∨ zgw ops j = true ∨ (newB oj = true/\∀ (k:Nat) (ok:Oper),ops[k]? = some ok->j < k->newB ok = true ∨ ancB ops ops.size k j = true)) /\
  (∀ (j k:Nat) (a b:Oper),ops[j]? = some a->ops[k]? = some b->QW a = true->QW b = true->j ≠ k->zgc ops j k) /\
  (∀ (j k:Nat) (a b:Oper) (d:Nat),ops[j]? = some a->ops[k]? = some b->a.dst = some d->b.dst = some d->j = k):=by
 unfold zp3 at h
 unfold zsb at h
 rw [zyL,zyS,zyS] at h
 have key:∀ (j k:Nat) (a b:Oper),ops[j]? = some a->ops[k]? = some b->j ≠ k->(∀ d,a.dst = some d->b.dst ≠ some d)/\(QW a = true->QW b = true->zgc ops j k):=by
  intro j k a b ha hb hne
  have:=h.2 j (by simpa using (Array.getElem?_eq_some_iff.1 ha).1)
  rw [zyS] at this
  have:=this k (by simpa using (Array.getElem?_eq_some_iff.1 hb).1)
  rw [ha,hb] at this
  simp only [Bool.or_eq_true,zyL] at this
  rcases this with this | ⟨t1,t2⟩
  ·exact absurd (Nat.eq_of_beq_eq_true this) hne
  refine ⟨fun d q1 q2=>?_,fun q1 q2=>?_⟩
  ·rw [q1,q2] at t1
   simp at t1
  ·simp only [q1,q2,Bool.and_self,Bool.not_true,Bool.false_eq_true,false_or] at t2
   exact t2
 refine ⟨fun j oj hj hq=>?_,fun j k a b ha hb q1 q2 hne=>(key j k a b ha hb hne).2 q1 q2,fun j k a b d ha hb q1 q2=>?_⟩
 ·have:=h.1 j (by simpa using (Array.getElem?_eq_some_iff.1 hj).1)
  rw [hj] at this
  simp only [hq,Bool.not_true,Bool.false_or,Bool.or_eq_true,zyL,zyS,List.mem_range] at this
  rcases this with (this | this) | ⟨h1,h2⟩
  ·exact .inl this
  ·exact .inr (.inl this)
  ·refine .inr (.inr ⟨h1,fun k ok hk hjk=>?_⟩)
   have h3:=h2 k (Array.getElem?_eq_some_iff.1 hk).1
   rw [hk] at h3
   rcases h3 with (h3 | h3) | h3
   ·have:=Nat.le_of_ble_eq_true h3; omega
   ·exact .inr h3
   ·exact .inl h3
 ·apply Classical.byContradiction
  intro hne
  exact (key j k a b ha hb hne).1 d q1 q2
theorem zas {ops:Array Oper} {K:St->Prop} (hpin:zp3 ops = true):∀ (l:List Oper) (k:Nat) (listed:Array Bool) (st:St),listed = lst ops.size k->(∀ j,l[j]? = ops[k + j]?)->Cl ops listed->Inv ops listed st->l.all (Qx n') = true ->
  Region.lexFrom .any ops l.length k listed = true->Qz P true (ops.toList.map (·.dst)) l st K->zqR P n' ops K l.length listed st
 | [],_,_,_,_,_,_,_,_,hB,h=>⟨by simpa [Region.lexFrom] using hB,h⟩
 | o :: l,k,listed,st,hlst,hl,hcl,hI,hall,hB,h=>by
  have hlst':listed.setIfInBounds k true = lst ops.size (k + 1):=by rw [hlst,zgz]
  have h0:ops[k]? = some o:=by simpa using (hl 0).symm
  simp only [List.length_cons,Region.lexFrom,zyL] at hB
  obtain ⟨⟨hr,hf⟩,hB'⟩:=hB
  simp only [List.all_cons,zyL] at hall
  have hr':k ∈ Region.ready .any ops listed:=by simpa using hr
  have hl':∀ j,l[j]? = ops[k + 1 + j]?:=fun j=>by have:=hl (j + 1); simpa [Nat.add_assoc,Nat.add_comm 1 j] using this
  simp only [Qz] at h
  obtain ⟨p1,p2,p3⟩:=znW hpin
  rcases h with h | ⟨_,_,_,_,_,_,hv⟩
  rotate_left
  ·exact hv.elim
  have hsto:∀ (j:Nat) (oj:Oper),ops[j]? = some oj->stoO oj = true->¬ pinned ops j = true->zgw ops j = true:=fun j oj hj hs hp=>by
   have hh:ql oj = true:=zlZ hs
   rcases p1 j oj hj hh with q | q | ⟨q,_⟩
   ·exact absurd q hp
   ·exact q
   ·rw [zl0 q] at hs; cases hs
  have hun:∀ m,k < m->m < ops.size->listed.getD m true = false:=fun m hm hms=>by
   cases hl:listed.getD m true with
   | false=>rfl
   | true=>rw [hlst] at hl; have:=zl1 _ _ _ (by omega) hl; omega
  have hFr:zi7 ops k st.box listed st:=⟨fun _ _ h=>h,fun m om d hom _ _ _ hkm hl=>(by
   rw [hun m hkm (Array.getElem?_eq_some_iff.1 hom).1] at hl; cases hl)⟩
  cases hq:ql o with
  | false =>
   have hnso:stoO o = false:=zr7 hq
   have hst:∃ G:Ef,zcs P ops o G st.box st/\Qz P true (ops.toList.map (·.dst)) l (G.app o.dst st) K:=by
    rcases zaq.1 h with ⟨hg,h⟩ | ⟨hg,h⟩
    ·obtain ⟨G,q1,q2⟩:=zr8 hall.1 hq h
     exact ⟨G,.inl ⟨hg,q1⟩,q2⟩
    ·exact ⟨.put .un,.inr ⟨hg,rfl⟩,by rw [Ef.app_put]; exact h⟩
   obtain ⟨G,hy,hK⟩:=hst
   exact zgy h0 hnso hsto p2 p3 l.length listed st hcl (Region.free_spec h0 hf) (fun hn=>(by
    rw [zr6 hq] at hn; cases hn)) hr' hI hFr hy (zas hpin l (k + 1) _ _ hlst' hl' (hcl.step hr') (hI.step p3 h0 hy) hall.2 hB' hK)
  | true =>
   by_cases hpk:pinned ops k = true
   rotate_left
   ·rcases (p1 k o h0 hq).resolve_left hpk with hsk | ⟨hnb,hlater⟩
    ·obtain ⟨t,d,y,m,om,r1,r2,r3,r4,r5,r6,r7,r8⟩:=zgx h0 hsk
     have hg:gdB (ops.toList.map (·.dst)) st o.guard = some true:=by rw [r2]; rfl
     have hv:zfR P true o st fun st'=>Qz P true (ops.toList.map (·.dst)) l st' K:=by
      rcases zaq.1 h with ⟨_,h⟩ | ⟨hg',_⟩
      ·exact h
      ·rw [hg] at hg'; cases hg'
     obtain ⟨G,q1,q2⟩:=zsa r1 hv
     have hy:zcs P ops o G st.box st:=.inl ⟨hg,q1⟩
     refine .inl ⟨fun h=>(by rw [h] at hr'; cases hr'),fun j hj=>?_⟩
     have hjk:j = k:=by
      obtain ⟨ju,oj,hoj,aj⟩:=mem_ready.1 hj
      obtain ⟨ku,ok',hok',ak⟩:=mem_ready.1 hr'
      have hjk':¬ j < k:=fun q=>by
       have:(lst ops.size k).getD j true = true:=znV ops.size k j q
       rw [<- hlst,ju] at this; cases this
      rcases r8 j (Array.getElem?_eq_some_iff.1 hoj).1 with e | ⟨e,_⟩ | ⟨_,e⟩
      ·exact e
      ·exact absurd e hjk'
      ·have hl:=anc_listed hcl _ j e fun oj' ho' e he hb=>by rw [hoj] at ho'; cases ho'; exact aj e he hb
       rw [unlisted_of ku] at hl; cases hl
     subst hjk
     unfold zbk
     rw [h0]
     exact .inl ⟨G,hy,zas hpin l (j + 1) _ _ hlst' hl' (hcl.step hr') (hI.step p3 h0 hy) hall.2 hB' q2⟩
    have hnso:stoO o = false:=zl0 hnb
    have hst:∃ G:Ef,zcs P ops o G st.box st/\Qz P true (ops.toList.map (·.dst)) l (G.app o.dst st) K:=by
     rcases zaq.1 h with ⟨hg,h⟩ | ⟨hg,h⟩
     ·obtain ⟨G,q1,q2⟩:=zr9 hnb h
      exact ⟨G,.inl ⟨hg,q1⟩,q2⟩
     ·exact ⟨.put .un,.inr ⟨hg,rfl⟩,by rw [Ef.app_put]; exact h⟩
    obtain ⟨G,hy,hK⟩:=hst
    refine zgy h0 hnso hsto p2 p3 l.length listed st hcl (Region.free_spec h0 hf) (fun _ j oj hoj hji hun=>?_) hr' hI hFr hy (zas hpin l (k + 1) _ _ hlst' hl' (hcl.step hr') (hI.step p3 h0 hy) hall.2 hB' hK)
    refine hlater j oj hoj ?_
    rcases Nat.lt_or_ge k j with q | q
    ·exact q
    ·exfalso
     have hjk:j < k:=by omega
     have:(lst ops.size k).getD j true = true:=znV ops.size k j hjk
     rw [<- hlst,hun] at this
     cases this
   refine .inl ⟨fun h=>(by rw [h] at hr'; cases hr'),fun j hj=>?_⟩
   have hjk:=zdk hcl hpk hj hr'
   subst hjk
   have hsub:∀ st',(∀ s t e,st'.tok s = some (t,e)->st.tok s = some (t,e))->Inv ops (listed.setIfInBounds j true) st':=by
    intro st' hs i oi d hoi hli hno hd s t e ht h2
    have hij:j ≠ i:=by
     rintro rfl
     rw [YH] at hli; cases hli
    rw [getD_set_ne true hij] at hli
    exact hI i oi d hoi hli hno hd s t e (hs s t e ht) h2
   unfold zbk
   rw [h0]
   rcases zaq.1 h with ⟨hg,h⟩ | ⟨hg,h⟩
   ·exact .inr ⟨⟨hq,hpk⟩,hg,(Qy hall.1 (zqT hq h)).mono fun st' hk=>zas hpin l (j + 1) _ st' hlst' hl' (hcl.step hr') (hsub st' hk.2) hall.2 hB' hk.1⟩
   ·refine .inl ⟨.put .un,.inr ⟨hg,rfl⟩,?_⟩
    rw [Ef.app_put]
    exact zas hpin l (j + 1) _ _ hlst' hl' (hcl.step hr') (hsub _ fun s t e ht=>Qf ht) hall.2 hB' h
end
end Go.Eng
namespace Go.Eng
open Go.RowKit
def AWp (P:Program) (n':Nat) (c:Code) (st:St) (Q:Exit->St->Prop):Prop :=
 ∀ (F:Fr) (a:Act) (w:World) (pr:Nat->Nat->Prop) (lam:Nat->Option Nat),F.nt = n'->zC P F st a w pr lam ->
  c.wp P (fun ex a' w'=>∃ st' pr' lam',Q ex st'/\zC P F st' a' w' pr' lam') a w
def zvQ (K:St->Prop) (Q:Exit->St->Prop):Exit->St->Prop
 | .normal,st=>K st
 | e,st=>Q e st
def zgA (id:Nat) (Q:Exit->St->Prop):Exit->St->Prop
 | .exit id',st=>if id' = id then Q .normal st else Q (.exit id') st
 | e,st=>Q e st
def zsc (v:V) (A B:Prop):Prop:=match v with | .bool b=>zuR b A B | _=>False
def zvR (ops:Array Oper) (st:St):Prop:=∀ s t e,st.tok s = some (t,e)->tcl t < 2->∀ o ∈ ops.toList,Qw o = true->o.dst ≠ some (t % 1000000)
def zsd (P:Program) (dr:Bool) (ops:Array Oper) (st:St) (K:St->Prop):Prop:=(dr = true->zvR ops st)/\Qz P dr (ops.toList.map (·.dst)) ops.toList st K
def zbF (P:Program) (n':Nat) (hd:List Nat):Code->St->(Exit->St->Prop)->Prop
 | .skip,st,Q=>Q .normal st
 | .label _,st,Q=>Q .normal st
 | .region id ops draw,st,Q=>if hd.contains id = true then AWp P n' (.region id ops draw) st Q else zsd P draw ops st (Q .normal)
 | .seq a b,st,Q=>zbF P n' hd a st (zvQ (fun st'=>zbF P n' hd b st' Q) Q)
 | .cond c t e,st,Q=>zsc (st.eval c) (zbF P n' hd t st Q) (zbF P n' hd e st Q)
 | .block id b,st,Q=>zbF P n' hd b st (zgA id Q)
 | .exit id,st,Q=>Q (.exit id) st
 | .ret,st,Q=>Q .ret st
 | c,st,Q=>AWp P n' c st Q
def zab (n':Nat) (hd:List Nat):Code->Bool
 | .region id ops draw=>hd.contains id || (ops.toList.all (Qx n') && (!draw || (zp3 ops && Region.lexB .any ops)))
 | .seq a b=>zab n' hd a && zab n' hd b
 | .cond _ a b=>zab n' hd a && zab n' hd b
 | .block _ b=>zab n' hd b
 | _=>true
theorem zC.drew {P:Program} {F:Fr} {st:St} {a:Act} {w:World} {pr:Nat->Nat->Prop} {lam:Nat->Option Nat} (h:zC P F st a w pr lam):zC P F st a { w with drawn:=w.drawn + 1 } pr lam :=
 h.ext (Ext.drew 1)
theorem Zl {P:Program} {n':Nat} {hd:List Nat} (hm:P.follows .mixedOrders = true):∀ (c:Code) (st:St) (Q:Exit->St->Prop),zab n' hd c = true->zbF P n' hd c st Q->AWp P n' c st Q
 | .skip,st,Q,_,h=>fun F a w pr lam _ hs=>wp_skip ⟨st,pr,lam,h,hs⟩
 | .label _,st,Q,_,h=>fun F a w pr lam _ hs=>wp_label ⟨st,pr,lam,h,hs⟩
 | .exit id,st,Q,_,h=>fun F a w pr lam _ hs=>wp_exit ⟨st,pr,lam,h,hs⟩
 | .ret,st,Q,_,h=>fun F a w pr lam _ hs=>wp_ret ⟨st,pr,lam,h,hs⟩
 | .seq x y,st,Q,hok,h=>by
  simp only [zab,zyL] at hok
  intro F a w pr lam hF hs
  refine wp_seq (wp_mono (Zl hm x st _ hok.1 h F a w pr lam hF hs) ?_)
  rintro e a' w' ⟨st',pr',lam',q,r⟩
  cases e with
  | normal=>exact Zl hm y st' Q hok.2 q F a' w' pr' lam' hF r
  | exit id=>exact ⟨st',pr',lam',q,r⟩
  | goto l=>exact ⟨st',pr',lam',q,r⟩
  | ret=>exact ⟨st',pr',lam',q,r⟩
  | panic c=>exact ⟨st',pr',lam',q,r⟩
  | outgrown=>exact ⟨st',pr',lam',q,r⟩
 | .cond c x y,st,Q,hok,h=>by
  simp only [zab,zyL] at hok
  intro F a w pr lam hF hs
  simp only [zbF,zsc] at h
  split at h
  ·rename_i b hb
   have hr:=hs.eval c
   rw [hb] at hr
   simp only [R] at hr
   exact wp_cond_split hr (fun ht=>Zl hm x st Q hok.1 (h.1 ht) F a w pr lam hF hs) (fun hf=>Zl hm y st Q hok.2 (h.2 hf) F a w pr lam hF hs)
  ·exact h.elim
 | .block id b,st,Q,hok,h=>by
  intro F a w pr lam hF hs
  refine wp_block (wp_mono (Zl hm b st _ hok h F a w pr lam hF hs) ?_)
  rintro e a' w' ⟨st',pr',lam',q,r⟩
  cases e with
  | exit id' =>
   simp only [zgA] at q
   simp only [Exit.inBlock]
   split at q
   ·rename_i hid; rw [if_pos hid]; exact ⟨st',pr',lam',q,r⟩
   ·rename_i hid; rw [if_neg hid]; exact ⟨st',pr',lam',q,r⟩
  | normal=>exact ⟨st',pr',lam',q,r⟩
  | goto l=>exact ⟨st',pr',lam',q,r⟩
  | ret=>exact ⟨st',pr',lam',q,r⟩
  | panic c=>exact ⟨st',pr',lam',q,r⟩
  | outgrown=>exact ⟨st',pr',lam',q,r⟩
 | .region id ops draw,st,Q,hok,h=>by
  simp only [zbF] at h
  split at h
  ·exact h
  ·rename_i hnc
   simp only [zab,Bool.or_eq_true,zyL] at hok
   have hok':=hok.resolve_left hnc
   have hall:=hok'.1
   have hdr:=hok'.2
   intro F a w pr lam hF hs
   cases draw with
   | false =>
    refine wp_region ?_
    have:=zbD (P:=P) (n':=n') rfl (ops:=ops) ops.toList 0 st (by simp) hall h.2 F a w pr lam hF hs (fun ex a' w'=>∃ st' pr' lam',Q ex st'/\zC P F st' a' w' pr' lam') (fun st' a' w' pr' lam' k r=>⟨st',pr',lam',k,r⟩)
    rwa [Array.length_toList,<- List.range_eq_range'] at this
   | true =>
    simp only [Bool.not_true,Bool.false_eq_true,false_or] at hdr
    obtain ⟨hq,hlex⟩:=hdr
    simp only [Region.lexB,zyL] at hlex
    refine wp_region_any hm ?_
    have hcl:Cl ops (Array.replicate ops.size false):=by
     intro j oj _ hj
     by_cases hlt:j < ops.size <;> simp [hlt] at hj
    have hI:Inv ops (Array.replicate ops.size false) st:=by
     intro j oj d hoj _ hno hd s t e ht h2 hq
     subst hq
     exact h.1 rfl s t e ht h2 oj (by simpa using Array.mem_of_getElem? hoj) hno hd
    have hst:=zas (P:=P) (n':=n') (ops:=ops) (K:=Q .normal) hq ops.toList 0 (Array.replicate ops.size false) st (by simp [lst]) (by simp) hcl hI hall (by simpa using hlex.2) h.2
    rw [Array.length_toList] at hst
    refine ZZ (n':=n') (fun i o ho=>?_) hF (fun st' a' w' pr' lam' k r=>⟨st',pr',lam',k,r⟩) _ _ st a _ pr lam hs.drew hst
    exact List.all_eq_true.1 hall o (by simpa using Array.mem_of_getElem? ho)
 | .loop _,_,_,_,h=>h
 | .rangeFunc _ _ _ _,_,_,_,h=>h
 | .scope _,_,_,_,h=>h
 | .goto _,_,_,_,h=>h
 | .refuse _,_,_,_,h=>h
theorem znX {P:Program} {c:Code} {Q:Exit->Act->World->Prop} (I:Nat->Act->World->Prop)
  (round:∀ k a w,I k a w->c.wp P (Exit.then (fun a' w'=>∃ k',k' < k/\I k' a' w') Q) a w):∀ (k:Nat) (a:Act) (w:World),I k a w->(Code.loop c).wp P Q a w:=by
 intro k a w h₀ b ks cs
 have key:∀ n a w,I n a w ->
   ∃ e a' w',Q e a' w'/\Arrives P (lone (b.at a (.code c :: .inLoop c :: ks)) cs w) b ks cs e a' w':=by
  intro n
  induction n using Nat.strongRecOn with
  | _ n ih =>
   intro a w hI
   obtain ⟨e,a₁,w₁,hq,harr⟩:=round n a w hI b (.inLoop c :: ks) cs
   cases e with
   | normal =>
    obtain ⟨k',hlt,hI₁⟩:=hq
    obtain ⟨e₂,a₂,w₂,hq₂,harr₂⟩:=ih k' hlt a₁ w₁ hI₁
    exact ⟨e₂,a₂,w₂,hq₂,.of_steps (Steps.trans harr (.one step_inLoop)) harr₂⟩
   | exit id=>exact ⟨_,a₁,w₁,hq,.pass (x:=.inLoop c) rfl (fun _ _=>.inl (by simp)) harr⟩
   | goto l=>exact ⟨_,a₁,w₁,hq,.pass (x:=.inLoop c) rfl (fun _ _=>.inl (by simp)) harr⟩
   | ret=>exact ⟨_,a₁,w₁,hq,.pass (x:=.inLoop c) rfl (fun _ _=>.inl (by simp)) harr⟩
   | panic ch=>exact ⟨_,a₁,w₁,hq,.pass (x:=.inLoop c) rfl (fun _ _=>.inl (by simp)) harr⟩
   | outgrown=>exact ⟨_,a₁,w₁,hq,.pass (x:=.inLoop c) rfl (fun _ _=>.inl (by simp)) harr⟩
 obtain ⟨e,a',w',hq,harr⟩:=key k a w h₀
 exact ⟨e,a',w',hq,.of_steps (.one step_loop) harr⟩
def St.init (args:List V) (ins:List Box):St :=
 { nb:=ins.length,sl:=fun s=>(args.getD s .un,some (2000000,0)),box:=fun i=>ins[i]? }
def zej (st:St) (P:Program):ResultVar->Option V
 | .tmp t=>some (st.env t)
 | .cell a t=>match st.env a with
  | .loc i off=>(match st.box i,aggT P t with
   | some B,some true=>(match sizeT P t with | some n=>if B.ty < 1000000000/\off + n <= B.cells.length then some (.agg ((B.cells.drop off).take n)) else none | none=>none)
   | some B,some false=>if B.ty < 1000000000 then B.cells[off]? else none
   | _,_=>none)
  | _=>none
def zaK (st:St) (P:Program):List ResultVar->Option (List V)
 | []=>some []
 | r :: rs=>match zej st P r,zaK st P rs with
  | some v,some vs=>some (v :: vs)
  | _,_=>none
def zqU (st:St) (P:Program) (rs:List ResultVar):Option V :=
 match zaK st P rs with
 | some [v]=>some v
 | some vs=>some (.tup vs)
 | none=>none
def zxq (P:Program) (rs:List ResultVar) (res:V) (outs:List Box):Exit->St->Prop
 | .ret,st | .normal,st=>zqU st P rs = some res/\(∀ i B,outs[i]? = some B->st.box i = some B)
 | _,_=>False
section
variable {P:Program} {F:Fr} {st:St} {a:Act} {w:World} {pr:Nat->Nat->Prop} {lam:Nat->Option Nat}
theorem znY (h:zC P F st a w pr lam) {g:ResultVar->Sem Value} (g1:∀ t,g (.tmp t) = pure (a.tmps.getD t undef)) (g2:∀ p t,g (.cell p t) = do loadVar t (<- asAddr (a.tmps.getD p undef)))
  {r:ResultVar} {v:V} (hv:zej st P r = some v):∃ x,(g r).run P w = .ok x w/\R ⟨w,pr,lam⟩ v x:=by
 cases r with
 | tmp t =>
  simp only [zej,zyO] at hv
  subst hv
  rw [g1]
  exact ⟨_,rfl,h.env t⟩
 | cell p t =>
  rw [g2]
  simp only [zej] at hv
  split at hv
  ·rename_i i off hp
   have hr:=h.env p
   rw [hp] at hr
   simp only [R] at hr
   obtain ⟨b,hl,e⟩:=hr
   split at hv
   ·rename_i B hB ha
    split at hv
    ·rename_i n hs
     split at hv
     ·rename_i hfit
      obtain ⟨hpl,hfit⟩:=hfit
      simp only [zyO] at hv; subst hv
      obtain ⟨b',q1,hat,_⟩:=h.box i B hB
      obtain ⟨cur,q2,q3,q4⟩:=hat.cells hpl
      obtain rfl:b = b':=by rw [show lam i = some b from hl] at q1; cases q1; rfl
      have hlen:((cur.toList.drop off).take n).length = n:=by
       have:=q3.length
       simp at this ⊢; omega
      have hrun:(loadVar t ⟨b,off,none⟩).run P w = .ok (.agg ((cur.toList.drop off).take n).toArray) w :=
       run_loadVar_agg ha (by rw [hlen]; exact hs) (fun j y hy=>by
        rw [List.getElem?_take] at hy
        split at hy
        ·rw [List.getElem?_drop] at hy
         simpa [World.cell?,q2] using hy
        ·cases hy)
      refine ⟨_,by simp only [e,asAddr,Sem.run_bind,Sem.run_pure,Result.andThen_ok]; exact hrun,?_⟩
      simp only [R]
      exact ⟨_,rfl,(q3.drop off).take n,fun y hy=>q4 y (List.mem_of_mem_drop (List.mem_of_mem_take hy))⟩
     ·cases hv
    ·cases hv
   ·rename_i B hB ha
    split at hv
    ·rename_i hpl
     obtain ⟨b',q1,hat,_⟩:=h.box i B hB
     obtain ⟨cur,q2,q3,q4⟩:=hat.cells hpl
     obtain rfl:b = b':=by rw [show lam i = some b from hl] at q1; cases q1; rfl
     obtain ⟨y,hy,hr⟩:=q3.get off v hv
     have hcell:w.cell? ⟨b,off,none⟩ = some y:=by simpa [World.cell?,q2] using hy
     exact ⟨y,by simp only [e,asAddr,Sem.run_bind,Sem.run_pure,Result.andThen_ok]; exact run_loadVar_one ha hcell,hr⟩
    ·cases hv
   ·cases hv
  ·cases hv
theorem zgB (h:zC P F st a w pr lam) {g:ResultVar->Sem Value} (g1:∀ t,g (.tmp t) = pure (a.tmps.getD t undef)) (g2:∀ p t,g (.cell p t) = do loadVar t (<- asAddr (a.tmps.getD p undef))) :
  ∀ (rs:List ResultVar) (vs:List V),zaK st P rs = some vs->∃ xs:List Value,(rs.mapM g).run P w = .ok xs w/\RL ⟨w,pr,lam⟩ vs xs
 | [],vs,hv=>by
  simp only [zaK,zyO] at hv; subst hv
  exact ⟨[],by simp,by simp [RL]⟩
 | r :: rs,vs,hv=>by
  simp only [zaK] at hv
  split at hv
  ·rename_i v vs' h1 h2
   simp only [zyO] at hv; subst hv
   obtain ⟨x,q1,q2⟩:=znY h g1 g2 h1
   obtain ⟨xs,q3,q4⟩:=zgB h g1 g2 rs vs' h2
   refine ⟨x :: xs,?_,by simp only [RL]; exact ⟨x,xs,rfl,q2,q4⟩⟩
   simp only [List.mapM_cons,Sem.run_bind,q1,q3,Result.andThen_ok,Sem.run_pure]
  ·cases hv
theorem zl2 (h:zC P F st a w pr lam) {fn:Func} {v:V} (hv:zqU st P fn.results.toList = some v):∃ x,(results fn a.tmps).run P w = .ok x w/\R ⟨w,pr,lam⟩ v x:=by
 unfold zqU at hv
 cases hr:zaK st P fn.results.toList with
 | none=>rw [hr] at hv; cases hv
 | some vs =>
  rw [hr] at hv
  have key:∀ g:ResultVar->Sem Value,(∀ t,g (.tmp t) = pure (a.tmps.getD t undef))->(∀ p t,g (.cell p t) = do loadVar t (<- asAddr (a.tmps.getD p undef))) ->
    ∃ xs:List Value,(do let vs <- fn.results.mapM g; pure (if h:vs.size = 1 then vs[0] else .tuple vs):Sem Value).run P w = .ok (if h:xs.toArray.size = 1 then xs.toArray[0] else .tuple xs.toArray) w/\RL ⟨w,pr,lam⟩ vs xs:=by
   intro g g1 g2
   obtain ⟨xs,q1,q2⟩:=zgB h g1 g2 _ vs hr
   refine ⟨xs,?_,q2⟩
   have hmm:(fn.results.mapM g).run P w = .ok xs.toArray w:=by
    rw [<- Array.toArray_toList (xs:=fn.results),List.mapM_toArray]
    simp [q1]
   simp only [Sem.run_bind,hmm,Result.andThen_ok,Sem.run_pure]
  obtain ⟨xs,q1,q2⟩:=key (fun r=>match r with | .tmp t=>pure (a.tmps.getD t undef) | .cell p t=>do loadVar t (<- asAddr (a.tmps.getD p undef))) (fun _=>rfl) (fun _ _=>rfl)
  refine ⟨_,q1,?_⟩
  match vs,xs,q2,hv with
  | [u],[x],q2,hv =>
   simp only [zyO] at hv; subst hv
   simp only [RL] at q2
   obtain ⟨y,ys,e,q2,rfl⟩:=q2
   simp only [List.cons.injEq,and_true] at e
   subst e
   simpa using q2
  | [],xs,q2,hv =>
   simp only [zyO] at hv; subst hv
   have:=q2.length
   have hx:xs = []:=List.eq_nil_of_length_eq_zero (by simpa using this.symm)
   subst hx
   simp only [R]
   exact ⟨[],by simp,by simp [RL]⟩
  | u :: u' :: us,xs,q2,hv =>
   simp only [zyO] at hv; subst hv
   have hl:=q2.length
   simp only [R]
   refine ⟨xs,?_,q2⟩
   rw [dif_neg]
   simp at hl ⊢; omega
  | [_],[],q2,_=>have:=q2.length; simp at this
  | [_],_ :: _ :: _,q2,_=>have:=q2.length; simp at this
end
theorem zj4 {P:Program} {f:FuncId} {fn:Func} {c:Code} {args:List V} {ins:List Box} (hf:P.funcs[f]? = some fn) (hb:fn.body = some c)
  (hsz:args.length <= fn.ntmps) {Q:Exit->St->Prop} (h:AWp P fn.ntmps c (St.init args ins) Q)
  {w:World} {pr:Nat->Nat->Prop} {lam:Nat->Option Nat} {cargs:Array Value} (hlt:HL w pr) (hargs:RL ⟨w,pr,lam⟩ args cargs.toList) (hins:zdo w pr lam ins)
  (hinj:∀ i j b,lam i = some b->lam j = some b->i = j) (hlam:∀ i,ins.length <= i->lam i = none) {Post:Ending->World->Prop}
  (fin:∀ (F:Fr) (ex:Exit) (st':St) (a':Act) (w':World) (pr':Nat->Nat->Prop) (lam':Nat->Option Nat),F.w0 = w->F.pr0 = pr->F.lam0 = lam->F.io = (fun b=>∃ i,lam i = some b)->F.hd = none->Q ex st'->zC P F st' a' w' pr' lam' ->
   (ex = .ret ∨ ex = .normal)/\∃ v,(results fn a'.tmps).run P w' = .ok v w'/\Post (.returned v) w'):Calls P f cargs w Post:=by
 have hal:=hargs.length
 simp at hal
 have hgl:∀ g vs,GL g = some vs->(∃ ty,w.heap[g]? = some (.cells vs.toArray ty (0,0)))/\¬ (∃ i,lam i = some g)/\∀ i,i < vs.length->pr g i:=fun g vs hg=>by
  obtain ⟨h1,h2⟩:=hlt.glob g vs hg
  refine ⟨h1,fun ⟨i,hi⟩=>?_,h2⟩
  have hil:i < ins.length:=by
   rcases Nat.lt_or_ge i ins.length with q | q
   ·exact q
   ·rw [hlam i q] at hi; cases hi
  obtain ⟨b,q1,_,q3⟩:=hins i _ (zys hil)
  rw [hi] at q1; cases q1
  exact q3 0 (h2 0 (zwe g vs hg))
 have hio:∀ b,pr b 0->¬ ∃ i,lam i = some b:=fun b hp ⟨i,hi⟩=>by
  have hil:i < ins.length:=by
   rcases Nat.lt_or_ge i ins.length with q | q
   ·exact q
   ·rw [hlam i q] at hi; cases hi
  obtain ⟨b',q1,_,q3⟩:=hins i _ (zys hil)
  rw [hi] at q1; cases q1
  exact q3 0 hp
 have htb:∀ g,TN = some g->∃ b,TBL w g b/\(¬ (∃ i,lam i = some g)/\(none:Option Nat) ≠ some g)/\(¬ (∃ i,lam i = some b)/\(none:Option Nat) ≠ some b)/\pr g 0/\pr b 0:=fun g hg=>by
  obtain ⟨b,h1,h2,h3⟩:=hlt.tab g hg
  exact ⟨b,h1,⟨hio g h2,by simp⟩,⟨hio b h3,by simp⟩,h2,h3⟩
 let F:Fr:={ nt:=fn.ntmps,lam0:=lam,w0:=w,pr0:=pr,io:=fun b=>∃ i,lam i = some b,hd:=none,tb:=htb,hd0:=(fun b o h=>by cases h),gl:=fun g vs hg=>⟨(hgl g vs hg).1,⟨(hgl g vs hg).2.1,by simp⟩,(hgl g vs hg).2.2⟩,lt0:=hlt.lt }
 have hold:∀ s t e,(St.init args ins).tok s = some (t,e)->tcl t = 2:=fun s t e hs=>by cases hs; rfl
 have gb2:∀ x,zJ 2 x = none:=fun x=>by unfold zJ; split <;> simp
 have henv0:∀ s,R ⟨w,pr,lam⟩ ((St.init args ins).env s) ((cargs++Array.replicate (fn.ntmps - cargs.size) undef).getD s undef):=by
  intro s
  show R _ (args.getD s .un) _
  by_cases hlt':s < args.length
  ·have:args.getD s .un = args[s]:=by simp [List.getD,zys hlt']
   rw [this]
   obtain ⟨x,hx,hr⟩:=hargs.get s _ (zys hlt')
   have hx':cargs[s]? = some x:=by simpa using hx
   have hsz':s < cargs.size:=by omega
   have:(cargs++Array.replicate (fn.ntmps - cargs.size) undef).getD s undef = x:=by
    rw [Array.getD_eq_getD_getElem?,Array.getElem?_append,if_pos hsz',hx']; rfl
   show R _ _ ((cargs++Array.replicate (fn.ntmps - cargs.size) undef).getD s undef)
   rw [this]
   exact hr
  ·have:args.getD s .un = .un:=by simp [List.getD,List.getElem?_eq_none (by omega:args.length <= s)]
   rw [this]
   show R _ _ ((cargs++Array.replicate (fn.ntmps - cargs.size) undef).getD s undef)
   simp only [R]
   rw [Array.getD_eq_getD_getElem?,Array.getElem?_append,if_neg (by omega),Array.getElem?_replicate]
   split <;> rfl
 have hs:zC P F (St.init args ins) { tmps:=cargs++Array.replicate (fn.ntmps - cargs.size) undef,defers:=[] } w pr lam:=by
  refine ⟨?_,rfl,fun s=>?_,(fun s t e hs g hg=>by rw [hold s t e hs,gb2] at hg; cases hg),(fun s s' t t' e e' g hs _ hg=>by rw [hold s t e hs,gb2] at hg; cases hg),fun i B hB=>?_,?_,(fun i B b s t e _ _ hs=>by rw [hold s t e hs,gb2]; simp),?_,hlt.lt,⟨rfl,rfl,rfl,DLE.refl _,Nat.le_refl _,fun _ _ _ _=>rfl⟩,fun _ _ h=>h,fun _ _ h=>.inl h,fun _ _ h=>h,
   (fun s s' t e e' hs _ hc=>by rw [hold s t e hs] at hc; cases hc),fun s t e hs hc=>henv0 s,(fun s s' t e e' b o g hs=>by have:=hold s _ e hs; unfold tcl at this; omega)⟩
  ·show (cargs++Array.replicate (fn.ntmps - cargs.size) undef).size = fn.ntmps
   simp; omega
  ·exact henv0 s
  ·obtain ⟨b,q1,q2,q5⟩:=hins i B hB
   exact ⟨b,q1,q2,q5,.inr ⟨i,q1⟩⟩
  ·intro i j B B' b _ _ h1 h2; exact hinj i j b h1 h2
  ·intro i hi
   refine hlam i ?_
   have:ins[i]? = none:=hi
   simpa using this
 have hwp:=h F _ w pr lam rfl hs
 refine calls_of_wp hf hb (wp_mono hwp ?_)
 rintro ex a' w' ⟨st',pr',lam',hq,hr⟩
 obtain ⟨hex,v,h1,h2⟩:=fin F ex st' a' w' pr' lam' rfl rfl rfl rfl rfl hq hr
 rcases hex with rfl | rfl
 ·exact ⟨hr.defers,v,h1,h2⟩
 ·exact ⟨hr.defers,v,h1,h2⟩
theorem zuT {P:Program} {F:Fr} {st:St} {a:Act} {w w':World} {pr pr':Nat->Nat->Prop} {lam lam':Nat->Option Nat} (hr:zC P F st a w' pr' lam') (e1:F.w0 = w) (e2:F.pr0 = pr) (e4:F.io = (fun b=>∃ i,lam i = some b)) (e5:F.hd = none):Left w pr lam w' pr':=by
 subst e1; subst e2
 refine ⟨hr.keep.os,hr.keep.tape,hr.keep.output,hr.keep.drawn,hr.keep.size,fun k hk hn=>hr.keep.block k hk (fun hi=>?_) (by rw [e5]; simp),hr.prsub,fun b o hp=>?_⟩
 ·rw [e4] at hi
  obtain ⟨i,hi⟩:=hi
  exact hn i hi
 ·rcases hr.prnew b o hp with h1 | h1 | h1
  ·exact .inl h1
  ·exact .inr ⟨h1,hr.prlt b o hp⟩
  ·rw [e5] at h1; cases h1
theorem Fn.of_AWp {P:Program} {f:FuncId} {fn:Func} {c:Code} {args:List V} {ins outs:List Box} {res:V} (hf:P.funcs[f]? = some fn) (hb:fn.body = some c)
  (hsz:args.length <= fn.ntmps) (hnl:res.noLoc = true) (hno:∀ B ∈ outs,V.noLocL B.cells = true)
  (hio:outs.length <= ins.length)
  (h:AWp P fn.ntmps c (St.init args ins) (zxq P fn.results.toList res outs)):Fn P f args ins res outs:=by
 intro w pr lam cargs hlt hargs hins hinj hlam
 refine zj4 hf hb hsz h hlt hargs hins hinj hlam ?_
 intro F ex st' a' w' pr' lam' e1 e2 e3 e4 e5 hq hr
 have hq':(ex = .ret ∨ ex = .normal)/\zqU st' P fn.results.toList = some res/\(∀ i B,outs[i]? = some B->st'.box i = some B):=by
  cases ex <;> first | exact ⟨.inl rfl,hq⟩ | exact ⟨.inr rfl,hq⟩ | exact hq.elim
 obtain ⟨hex,hres,hout⟩:=hq'
 obtain ⟨x,hx,hrx⟩:=zl2 hr hres
 refine ⟨hex,x,hx,x,pr',rfl,hrx.noLoc _ _ hnl,fun i B hB=>?_,zuT hr e1 e2 e4 e5⟩
 obtain ⟨b,q1,q2,q5,_⟩:=hr.box i B (hout i B hB)
 have hil:i < ins.length:=by
  have:=(List.getElem?_eq_some_iff.1 hB).1
  omega
 obtain ⟨b0,p1,_⟩:=hins i _ (zys hil)
 have hbb:b0 = b:=by
  have:=hr.lamsub i b0 (by rw [e3]; exact p1)
  rw [q1] at this; cases this; rfl
 subst hbb
 exact ⟨b0,p1,q2.noLoc (hno B (zyu hB)),q5⟩
end Go.Eng
namespace Go.Eng
open Go.RowKit
def znZ (o:Oper):Bool:=match o.guard with
 | some _=>false
 | none=>match o.op with
  | .move _=>true
  | .binOp .add _ _ _ _=>true
  | .binOp .sub _ _ _ _=>true
  | .indexAddr _ _ _=>true
  | .slice _ _ _ _ none=>true
  | _=>false
def zse (o:Oper):Bool:=match o.guard with
 | some _=>false
 | none=>match o.op with
  | .load _ _=>true
  | _=>false
def zwc (ops:Array Oper) (listed:Array Bool) (i j:Nat):Bool:=match ops[i]?,ops[j]? with
 | some a,some b=>zse a && zse b && a.apart ops b && (Region.ready .any ops (listed.setIfInBounds i true) == [j]) && (Region.ready .any ops (listed.setIfInBounds j true) == [i])
 | _,_=>false
def zge (ops:Array Oper) (listed:Array Bool) (i:Nat):Bool:=(match ops[i]? with | some o=>znZ o | none=>false) && Region.free .any ops listed i
def zn0 (ops:Array Oper):Nat->Array Bool->Option (List (Nat × Nat))
 | 0,listed=>match Region.ready .any ops listed with
  | []=>some []
  | _=>none
 | fuel + 1,listed=>match Region.ready .any ops listed with
  | []=>some []
  | i :: is=>match is with
   | []=>(match zn0 ops fuel (listed.setIfInBounds i true) with | some l=>some ((i,0) :: l) | none=>none)
   | k :: ks=>(match (i :: k :: ks).find? (zge ops listed) with
    | some j=>(match zn0 ops fuel (listed.setIfInBounds j true) with | some l=>some ((j,1) :: l) | none=>none)
    | none=>(match ks,fuel with
     | [],fuel' + 1=>bif zwc ops listed i k then (match zn0 ops fuel' ((listed.setIfInBounds i true).setIfInBounds k true) with | some l=>some ((i,k + 2) :: l) | none=>none) else none
     | _,_=>none))
def zgC (P:Program) (o:Oper) (st:St) (K:St->Prop):Prop:=match o.op with
 | .move x=>K (st.put o.dst (st.eval x) (st.tokOf x))
 | .binOp .add _ x y _=>(match st.eval x,st.eval y with
  | .int k a,.int k' b=>k = k'/\InR k (a + b)/\K (st.put o.dst (.int k (a + b)) none)
  | _,_=>False)
 | .binOp .sub _ x y _=>(match st.eval x,st.eval y with
  | .int k a,.int k' b=>k = k'/\InR k (a - b)/\K (st.put o.dst (.int k (a - b)) none)
  | _,_=>False)
 | .indexAddr t x i=>(match st.eval x,st.eval i with
  | .list rows,.int _ i=>(match qB P t with
   | some e=>(match sizeT P e with
    | some n=>qL n rows/\(0 <= i/\i < rows.length)/\K (st.put o.dst (.elt (rows.getD i.toNat .any).cellsL 0) none)
    | none=>False)
   | none=>False)
  | _,_=>False)
 | .slice t x lo hi none=>(match st.eval x with
  | .list rows=>Z3 P t st (.list rows) lo hi none o.dst fun v tk=>K (st.put o.dst v tk)
  | _=>False)
 | _=>False
theorem zgD {P:Program} {o:Oper} {a:Act} {w:World} {pr:Nat->Nat->Prop} {lam:Nat->Option Nat} {ρ:Operand->V} (hop:∀ x,R ⟨w,pr,lam⟩ (ρ x) (a.eval x)) {t e:TypeId} {x:Operand} {lo hi:Option Operand} {rows:List V} {l h n:Nat} (ho:o.op = .slice t x lo hi none) (hx:ρ x = .list rows)
  (ht:P.underlying t = some (.slice e)) (hs:sizeT P e = some n) (hrows:qL n rows) (hl:zac ρ lo 0 = some l) (hh:zac ρ hi rows.length = some h) (hlh:l <= h) (hhl:h <= rows.length) :
  ∃ v,(∀ w',(execOp a.eval o).run P w' = .ok (.value v) w')/\R ⟨w,pr,lam⟩ (.list ((rows.take h).drop l)) v:=by
 have q1:=hop x
 rw [hx] at q1
 simp only [R] at q1
 obtain ⟨base,cap,e1,hc,hm,hb⟩:=q1
 have hb1:∀ w',(match lo.map a.eval with | some v=>Instr.sliceBound v h .sliceB | none=>Pure.pure 0).run P w' = .ok l w':=fun w'=>by
  cases lo with
  | none=>simp only [zac,zyO] at hl; subst hl; simp
  | some y =>
   obtain ⟨k,i,hy,h0,hn⟩:=ZQ hl
   have q:=hop y
   rw [hy] at q; simp only [R] at q
   exact run_sliceBound q h0 hn hlh _ w'
 have hb2:∀ w',(match hi.map a.eval with | some v=>Instr.sliceBound v cap .sliceAcap | none=>Pure.pure rows.length).run P w' = .ok h w':=fun w'=>by
  cases hi with
  | none=>simp only [zac,zyO] at hh; subst hh; simp
  | some y =>
   obtain ⟨k,i,hy,h0,hn⟩:=ZQ hh
   have q:=hop y
   rw [hy] at q; simp only [R] at q
   exact run_sliceBound q h0 hn (Nat.le_trans hhl hc) _ w'
 have hbs:∀ w',(Instr.sliceBounds true rows.length cap (lo.map a.eval) (hi.map a.eval) none).run P w' = .ok (l,h,cap) w':=fun w'=>by
  have hb1:=hb1 w'
  have hb2:=hb2 w'
  cases lo <;> cases hi <;> simp only [Option.map_some,Option.map_none,Sem.run_pure,Result.ok.injEq,and_true] at hb1 hb2 <;>
   simp [Instr.sliceBounds,hb1,hb2]
 refine ⟨.slice (if cap = l then base else base.map (·.add (l * n))) (h - l) (cap - l),fun w'=>?_,?_⟩
 ·have hbs:=hbs w'
  simp only [execOp,ho,e1]
  simp [Instr.sliceAt,run_underlying ht,Instr.slice,hbs,run_sizeOf hs]
 ·simp only [R]
  have hlen:((rows.take h).drop l).length = h - l:=by simp; omega
  refine ⟨_,cap - l,by rw [hlen],by rw [hlen]; omega,by omega,?_⟩
  rcases hb with ⟨rfl,rfl⟩ | ⟨b,o',k,rfl,hb⟩
  ·left
   simp at hhl; subst hhl
   simp at hlh; subst hlh
   simp
  ·right
   by_cases hcl:cap = l
   ·have:(rows.take h).drop l = []:=by
     apply List.eq_nil_of_length_eq_zero
     rw [hlen]; omega
    rw [this,if_pos hcl]
    exact ⟨b,o',k,rfl,by simp [RR]⟩
   ·rw [if_neg hcl]
    refine ⟨b,o' + l * n,k,by simp [Addr.add_none],?_⟩
    rcases rows with _ | ⟨r,rs⟩
    ·simp [RR]
    ·obtain rfl:=hb.size hrows (r:=r) (by simp)
     exact hb.slice
section
variable {P:Program} {n':Nat}
theorem zj5 {ops:Array Oper} {o:Oper} {st:St} {K:St->Prop} (hd:Qx n' o = true) (ht:znZ o = true) (h:zgC P o st K) {F:Fr} {a:Act} {w:World} {pr:Nat->Nat->Prop} {lam:Nat->Option Nat}
  (hF:F.nt = n') (hs:zC P F st a w pr lam):∃ v st',Yields P ops o v a/\K st'/\zC P F st' (a.put o.dst v) w pr lam:=by
 have hd':=YA hd
 subst hF
 have hg:o.guard = none:=by
  unfold znZ at ht
  split at ht
  ·cases ht
  ·assumption
 have hw:Region.wanted o (yielded ops a.tmps) = true:=by unfold Region.wanted; rw [hg]
 unfold zgC at h
 split at h
 ·rename_i x ho
  have hr:∀ w,(execOp a.eval o).run P w = .ok (.value (a.eval x)) w:=fun w=>by simp [execOp,ho]
  refine ⟨a.eval x,_,.inl ⟨hw,hr⟩,h,hs.put hd' (hs.eval x) ?_⟩
  cases x with
  | tmp s =>
   simp only [St.tokOf]
   cases hq:st.tok s with
   | none=>trivial
   | some te =>
    obtain ⟨t,e⟩:=te
    exact ⟨hs.own s t e hq,fun s' t' e' g hs' h1 h2=>hs.coh s s' t t' e e' g hq hs' h2 h1,fun i B b hB hl=>hs.apart i B b s t e hB hl hq,fun s' e' hs' hc=>hs.coh2 s' s t e' e hs' hq hc,fun hc=>hs.old s t e hq hc,
     fun s' e' b o g hs' h1 h2=>hs.ptr s' s t e' e b o g hs' hq h1 h2,fun s' u e' b o g hu hs' h1 h2=>hs.ptr s s' u e e' b o g (hu ▸ hq) hs' h1 h2⟩
  | const v=>trivial
  | global g=>trivial
  | func f=>trivial
 ·rename_i xT x y yT ho
  split at h
  ·rename_i k c k' b hx hy
   obtain ⟨rfl,hin,h⟩:=h
   have h1:=hs.eval x
   have h2:=hs.eval y
   rw [hx] at h1
   rw [hy] at h2
   simp only [R] at h1 h2
   have hin':k.wrap (c + b) = c + b:=hin
   have hr:∀ w,(execOp a.eval o).run P w = .ok (.value (.int k (c + b))) w:=fun w=>by
    simp [execOp,ho,h1,h2,eqGuard,binOp,Op.intArith,Op.intCmp,hin']
   exact ⟨_,_,.inl ⟨hw,hr⟩,h,hs.put hd' (by simp [R]) trivial⟩
  ·exact h.elim
 ·rename_i xT x y yT ho
  split at h
  ·rename_i k c k' b hx hy
   obtain ⟨rfl,hin,h⟩:=h
   have h1:=hs.eval x
   have h2:=hs.eval y
   rw [hx] at h1
   rw [hy] at h2
   simp only [R] at h1 h2
   have hin':k.wrap (c - b) = c - b:=hin
   have hr:∀ w,(execOp a.eval o).run P w = .ok (.value (.int k (c - b))) w:=fun w=>by
    simp [execOp,ho,h1,h2,eqGuard,binOp,Op.intArith,Op.intCmp,hin']
   exact ⟨_,_,.inl ⟨hw,hr⟩,h,hs.put hd' (by simp [R]) trivial⟩
  ·exact h.elim
 ·rename_i t x ix ho
  split at h
  case h_2=>exact h.elim
  rename_i rows k i hx hi
  split at h
  case h_2=>exact h.elim
  rename_i e ht
  split at h
  case h_2=>exact h.elim
  rename_i n hn
  obtain ⟨hrows,⟨h0,h1⟩,h⟩:=h
  have q1:=hs.eval x
  have q2:=hs.eval ix
  rw [hx] at q1
  rw [hi] at q2
  simp only [R] at q1 q2
  obtain ⟨base,cap,e1,hc,hm,hb⟩:=q1
  have hlt:i.toNat < rows.length:=by omega
  obtain ⟨r,hr⟩:∃ r,rows[i.toNat]? = some r:=⟨_,zys hlt⟩
  rcases hb with ⟨hb,_⟩ | ⟨b,o',k',rfl,hb⟩
  ·subst hb; simp at hlt
  ·have hmem:r ∈ rows:=zyu hr
   obtain rfl:=hb.size hrows hmem
   obtain ⟨y,p1,p2,p3⟩:=hb.get _ r hr
   have hcond:0 <= i/\i < (rows.length:Int):=⟨h0,h1⟩
   have hrun:∀ w,(execOp a.eval o).run P w = .ok (.value (.pointer (some ⟨b,o' + i.toNat * k',none⟩))) w:=fun w=>by
    simp only [execOp,ho,e1,q2]
    simp [Instr.indexAt,asIntOf,run_underlying (yF ht),hcond,run_sizeOf hn,Addr.add_none]
   refine ⟨_,_,.inl ⟨hw,hrun⟩,h,hs.put hd' ?_ trivial⟩
   have hget:rows.getD i.toNat .any = r:=by rw [List.getD_eq_getElem?_getD,hr]; rfl
   rw [hget]
   simp only [R]
   exact ⟨b,o' + i.toNat * k',rfl,zgH (k:=k') p1 (hrows r hmem) p3⟩
 ·rename_i t x lo hi ho
  split at h
  case h_2=>exact h.elim
  rename_i rows hx
  simp only [Z3] at h
  split at h
  case h_2=>exact h.elim
  rename_i e hT
  split at h
  case h_2=>exact h.elim
  rename_i n hsz
  obtain ⟨hr,h⟩:=h
  obtain ⟨l,hl,h⟩:=Zk h
  obtain ⟨hh,hl2,h1,h2,h3⟩:=Zk h
  obtain ⟨v,q1,q2⟩:=zgD (ρ:=st.eval) (fun x=>hs.eval x) ho hx (yF hT) hsz hr hl hl2 h1 h2
  exact ⟨v,_,.inl ⟨hw,q1⟩,h3,hs.put hd' q2 trivial⟩
 ·exact h.elim
end
end Go.Eng
namespace Go.Eng
open Go.RowKit
structure zp4 (w:World) (pr:Nat->Nat->Prop) (lam:Nat->Option Nat) (hb:Option Nat) (w':World) (pr':Nat->Nat->Prop):Prop where
 os:w'.os = w.os
 tape:w'.tape = w.tape
 output:w'.output = w.output
 drawn:DLE w w'
 size:w.heap.size <= w'.heap.size
 block:∀ k,k < w.heap.size->(∀ i,lam i ≠ some k)->hb ≠ some k->w'.heap[k]? = w.heap[k]?
 sub:∀ b o,pr b o->hb ≠ some b->pr' b o
 new:∀ b o,pr' b o->(pr b o/\hb ≠ some b) ∨ (w.heap.size <= b/\b < w'.heap.size) ∨ hb = some b
def prM (pr:Nat->Nat->Prop) (hb:Option Nat):Nat->Nat->Prop:=fun b o=>pr b o/\hb ≠ some b
def FnM (P:Program) (f:FuncId) (args:List V) (ins:List Box) (p:Nat) (e:TypeId) (res:V) (outs:List Box):Prop :=
 ∀ (w:World) (pr:Nat->Nat->Prop) (lam:Nat->Option Nat) (cargs:Array Value),HL w pr ->
  Own P (fun g=>((∀ k vs,GL k = some vs->g ≠ k)/\TN ≠ some g)/\∀ i,lam i ≠ some g) ⟨w,pr,lam⟩ 0 e (cargs.getD p undef) ->
  RL ⟨w,pr,lam⟩ args cargs.toList ->
  (∀ j v,j ≠ p->args[j]? = some v->R ⟨w,prM pr (zJ 0 (cargs.getD p undef)),lam⟩ v (cargs.getD j undef)) ->
  zdo w pr lam ins->(∀ i j b,lam i = some b->lam j = some b->i = j)->(∀ i,ins.length <= i->lam i = none) ->
  Calls P f cargs w fun en w'=>∃ v pr',en = .returned v/\R ⟨w',pr',lam⟩ res v/\zdo w' pr' lam outs /\
   zp4 w pr lam (zJ 0 (cargs.getD p undef)) w' pr'/\Own P (fun g=>w.heap.size <= g ∨ zJ 0 (cargs.getD p undef) = some g) ⟨w',pr',lam⟩ 0 e v
def Yy (tk:Nat) (x:V × Option (Nat × TypeId)):V × Option (Nat × TypeId) :=
 match x.2 with
 | some (t,e)=>if t = tk then (.any,none) else Yx tk [] x
 | none=>Yx tk [] x
def St.dropped (st:St) (tk:Nat):St:={ st with sl:=fun s=>Yy tk (st.sl s) }
theorem zbG (tk:Nat) (x:V × Option (Nat × TypeId)) :
  Yy tk x = (.any,none) ∨
  (Yy tk x = x/\((∃ t e,x.2 = some (t,e)/\t ≠ tk/\(tcl t = 2 ∨ (tcl t = 0/\∃ rs,x.1 = .list rs/\V.flatL rs = true))) ∨ x.1.flat = true)/\∀ e,x.2 ≠ some (tk,e)):=by
 unfold Yy
 rcases zlW tk [] x with ⟨e,q,q2⟩ | q | q
 ·rw [q]; left; simp
 ·left
  split
  ·split
   ·rfl
   ·exact q
  ·exact q
 ·right
  obtain ⟨q1,q2,q3⟩:=q
  refine ⟨?_,q2,q3⟩
  split
  ·rename_i t e hx
   rw [if_neg]
   ·exact q1
   ·rintro rfl
    exact q3 e hx
  ·exact q1
section
variable {P:Program} {n':Nat} {F:Fr} {st:St} {a:Act} {w:World} {pr:Nat->Nat->Prop} {lam:Nat->Option Nat}
theorem zC.release (h:zC P F st a w pr lam) {ss tk:Nat} {e:TypeId} (htk:st.tok ss = some (tk,e)) (hcl:tcl tk = 0) (hbf:∀ i B,st.box i = some B->V.flatL B.cells = true) {hb:Option Nat} (hhb:zJ 0 (a.tmps.getD ss undef) = hb) :
  zC P F (st.dropped tk) a w (prM pr hb) lam/\(∀ s t e',(st.dropped tk).tok s = some (t,e')->∀ g,zJ (tcl t) (a.tmps.getD s undef) = some g->hb ≠ some g)/\(∀ i B b,st.box i = some B->lam i = some b->hb ≠ some b)/\(∀ b,hb = some b->F.mine b):=by
 have hmine:∀ b,hb = some b->F.mine b:=fun b hq=>(h.own ss tk e htk b (by rw [hcl,hhb]; exact hq)).1
 have htok:∀ s t e',(st.dropped tk).tok s = some (t,e')->st.tok s = some (t,e')/\t ≠ tk:=by
  intro s t e' hs
  change (Yy tk (st.sl s)).2 = some (t,e') at hs
  rcases zbG tk (st.sl s) with q | ⟨q,_,q3⟩ <;> rw [q] at hs
  ·cases hs
  ·exact ⟨hs,fun hq=>by subst hq; exact q3 e' hs⟩
 have hne:∀ s t e',st.tok s = some (t,e')->t ≠ tk->∀ g,zJ (tcl t) (a.tmps.getD s undef) = some g->hb ≠ some g:=by
  intro s t e' hs ht g hg hq
  exact ht (h.coh s ss t tk e' e g hs htk hg (by rw [hcl,hhb]; exact hq))
 have hsubpr:∀ b o,F.pr0 b o->prM pr hb b o:=fun b o hp=>⟨h.prsub b o hp,fun hq=>F.mine_pr (hmine b hq) hp⟩
 refine ⟨{
  size:=h.size
  defers:=h.defers
  env:=fun s=>?_
  own:=fun s t e' hs g hg=>?_
  coh:=fun s s' t t' e1 e2 g hs hs'=>h.coh s s' t t' e1 e2 g (htok _ _ _ hs).1 (htok _ _ _ hs').1
  box:=fun i B hB=>?_
  inj:=h.inj
  apart:=fun i B b s t e' hB hl hs=>h.apart i B b s t e' hB hl (htok _ _ _ hs).1
  nolam:=h.nolam
  prlt:=fun b o hp=>h.prlt b o hp.1
  keep:=h.keep
  prsub:=hsubpr
  prnew:=fun b o hp=>h.prnew b o hp.1
  lamsub:=h.lamsub
  coh2:=fun s s' t e1 e2 hs hs'=>h.coh2 s s' t e1 e2 (htok _ _ _ hs).1 (htok _ _ _ hs').1
  old:=fun s t e' hs hc=>?_
  ptr:=fun s s' t e1 e2 b o g hs hs'=>h.ptr s s' t e1 e2 b o g (htok _ _ _ hs).1 (htok _ _ _ hs').1 },
  fun s t e' hs g hg=>hne s t e' (htok s t e' hs).1 (htok s t e' hs).2 g hg,fun i B b hB hl hq=>h.apart i B b ss tk e hB hl htk (by rw [hcl,hhb]; exact hq),hmine⟩
 ·change R _ (Yy tk (st.sl s)).1 _
  rcases zbG tk (st.sl s) with q | ⟨q,hcase,_⟩
  ·rw [q]; simp [R]
  ·rw [q]
   rcases hcase with ⟨t,e',hs,ht,h2 | ⟨h0,rs,hrs,hfl⟩⟩ | hfl
   ·have:=h.old s t e' hs h2
    exact R.mono (E:=⟨w,F.pr0,lam⟩) (E':=⟨w,prM pr hb,lam⟩) ⟨fun _ _ h=>h,hsubpr,fun _ _ _=>rfl⟩ _ _ this
   ·have hR:=h.env s
    change R _ (st.sl s).1 _ at hR
    rw [hrs] at hR ⊢
    simp only [R] at hR ⊢
    obtain ⟨base,cap2,e1,c1,c2,hbb⟩:=hR
    refine ⟨base,cap2,e1,c1,c2,?_⟩
    rcases hbb with hbb | ⟨b,o,k,e2,hbb⟩
    ·exact .inl hbb
    ·refine .inr ⟨b,o,k,e2,?_⟩
     by_cases hrs0:rs = []
     ·subst hrs0; simp [RR]
     have hpos:0 < rs.length:=List.length_pos_iff.2 hrs0
     have hgb:zJ (tcl t) (a.tmps.getD s undef) = some b:=by
      rw [e1,e2,h0]
      simp only [zJ]
      rw [if_pos (.inl ⟨trivial,by omega⟩)]
     have hbg:=hne s t e' hs ht b hgb
     refine RR.of_get fun i r hi=>?_
     obtain ⟨y,p1,p2,p3⟩:=hbb.get i r hi
     refine ⟨y,R.flat r y (zeh hfl r (zyu hi)) p1,p2,fun j z hz=>?_⟩
     obtain ⟨p4,p5⟩:=p3 j z hz
     exact ⟨⟨p4.1,p4.2,hbg⟩,p5⟩
   ·exact R.flat _ _ hfl (h.env s)
 ·obtain ⟨r1,n,cap,cu,sz,r2,r3,r4,r5,r6⟩:=h.own s t e' (htok s t e' hs).1 g hg
  exact ⟨r1,n,cap,cu,sz,r2,r3,r4,r5,fun o ho hp=>r6 o ho hp.1⟩
 ·obtain ⟨b,r1,r2,r5,r6⟩:=h.box i B hB
  exact ⟨b,r1,Yc.flat rfl (hbf i B hB) r2,fun o hp=>r5 o hp.1,r6⟩
 ·have hs':=htok s t e' hs
  have hhold:=h.old s t e' hs'.1 hc
  change R _ (Yy tk (st.sl s)).1 _
  change (Yy tk (st.sl s)).2 = some (t,e') at hs
  rcases zbG tk (st.sl s) with q | ⟨q,_⟩
  ·rw [q] at hs; cases hs
  ·rw [q]; exact hhold
theorem zC.calledM {w':World} {pr':Nat->Nat->Prop} {lam':Nat->Option Nat} {hb:Option Nat} (h:zC P F st a w (prM pr hb) lam) (htb:∀ s t e',st.tok s = some (t,e')->∀ g,zJ (tcl t) (a.tmps.getD s undef) = some g->hb ≠ some g)
  (hbb:∀ i B b,st.box i = some B->lam i = some b->hb ≠ some b) (hmine:∀ b,hb = some b->F.mine b) (hblt:∀ b,hb = some b->b < w.heap.size) {π:List Nat} {ins outs:List Box} (hπ:π.Nodup) (hbx:YJ st π ins)
  (hlen:outs.length = ins.length) (hno:∀ B ∈ outs,V.noLocL B.cells = true) (hlam:∀ i,lam' i = (π[i]?).bind lam) (hout:zdo w' pr' lam' outs) (hleft:zp4 w pr lam' hb w' pr') :
  zC P F (st.setBoxes π outs) a w' pr' lam:=by
 obtain ⟨hl1,hl2⟩:=Zm hbx
 have hblk:∀ i b,lam' i = some b->∃ j B,π[i]? = some j/\st.box j = some B/\lam j = some b:=by
  intro i b hi
  rw [hlam] at hi
  cases hp:π[i]? with
  | none=>rw [hp] at hi; cases hi
  | some j =>
   rw [hp] at hi
   have hlt:i < ins.length:=by
    have:=(List.getElem?_eq_some_iff.1 hp).1
    omega
   obtain ⟨j',q1,q2,_⟩:=hl2 i _ (zys hlt)
   rw [hp] at q1; cases q1
   exact ⟨j,_,rfl,q2,hi⟩
 have hbox:∀ j,(st.setBoxes π outs).box j = none ↔ st.box j = none:=by
  intro j
  by_cases hj:j ∈ π
  ·obtain ⟨i,hi⟩:=List.getElem?_of_mem hj
   rw [YO π outs st i j hπ (by omega) hi]
   have hlt:i < π.length:=(List.getElem?_eq_some_iff.1 hi).1
   obtain ⟨j',q1,q2,_⟩:=hl2 i _ (zys (by omega:i < ins.length))
   rw [hi] at q1; cases q1
   rw [q2]
   simp; omega
  ·rw [ZR π outs st hj]
 have hsome:∀ j B,(st.setBoxes π outs).box j = some B->∃ B',st.box j = some B':=by
  intro j B hB
  cases hq:st.box j with
  | none=>rw [(hbox j).2 hq] at hB; cases hB
  | some B'=>exact ⟨B',rfl⟩
 have hle:Env.Le ⟨w,prM pr hb,lam⟩ ⟨w',pr',lam⟩:=by
  refine ⟨fun _ _ h=>h,fun b o hp=>hleft.sub b o hp.1 hp.2,fun b o hp=>?_⟩
  have hblock:=hleft.block b (h.prlt b o hp) (fun i hi=>by
   obtain ⟨j,B,_,q2,q3⟩:=hblk i b hi
   obtain ⟨b',r1,_,r3,_⟩:=h.box j B q2
   rw [q3] at r1; cases r1
   exact r3 o hp) hp.2
  show w'.cell? _ = w.cell? _
  unfold World.cell?
  rw [hblock]
 have henv:∀ s,(st.setBoxes π outs).env s = st.env s:=fun s=>by unfold St.env; rw [Yd]
 have htok:∀ s,(st.setBoxes π outs).tok s = st.tok s:=fun s=>by unfold St.tok; rw [Yd]
 refine {
  size:=h.size
  defers:=h.defers
  env:=fun s=>by rw [henv]; exact (h.env s).mono hle
  own:=fun s t e hs g hg=>?_
  coh:=fun s s' t t' e e' g hs hs'=>h.coh s s' t t' e e' g (htok s ▸ hs) (htok s' ▸ hs')
  box:=fun j B hB=>?_
  inj:=fun i j B B' b hB hB' q1 q2=>?_
  apart:=fun i B b s t e hB q1 hs=>?_
  nolam:=fun i hi=>h.nolam i ((hbox i).1 hi)
  prlt:=fun b o hp=>?_
  keep:=?_
  prsub:=fun b o hp=>hle.pr b o (h.prsub b o hp)
  prnew:=fun b o hp=>?_
  lamsub:=h.lamsub
  coh2:=fun s s' t e e' hs hs'=>h.coh2 s s' t e e' (htok s ▸ hs) (htok s' ▸ hs')
  old:=fun s t e hs hc=>?_
  ptr:=fun s s' t e e' b o g hs hs'=>h.ptr s s' t e e' b o g (htok s ▸ hs) (htok s' ▸ hs') }
 ·rw [htok] at hs
  obtain ⟨r1,n,cap,cu,sz,r2,r3,r4,r5,r6⟩:=h.own s t e hs g hg
  have hlt:g < w.heap.size:=(Array.getElem?_eq_some_iff.1 r3).1
  have hgb:=htb s t e hs g hg
  refine ⟨r1,n,cap,cu,sz,r2,?_,r4,r5,fun o ho hp=>?_⟩
  ·show w'.heap[g]? = _
   rw [hleft.block g hlt (fun i hi=>?_) hgb]
   ·exact r3
   ·obtain ⟨j,B,_,q2,q3⟩:=hblk i g hi
    exact h.apart j B g s t e q2 q3 hs hg
  ·rcases hleft.new g o hp with hp | ⟨hp,_⟩ | hp
   ·exact r6 o ho hp
   ·omega
   ·exact hgb hp
 ·by_cases hj:j ∈ π
  ·obtain ⟨i,hi⟩:=List.getElem?_of_mem hj
   rw [YO π outs st i j hπ (by omega) hi] at hB
   obtain ⟨b,q1,q2,q3⟩:=hout i B hB
   obtain ⟨j',B',p1,p2,p3⟩:=hblk i b q1
   rw [hi] at p1; cases p1
   obtain ⟨b',r1,_,_,r4⟩:=h.box j B' p2
   rw [p3] at r1; cases r1
   exact ⟨b,p3,q2.noLoc (hno B (zyu hB)),q3,r4⟩
  ·rw [ZR π outs st hj] at hB
   obtain ⟨b,r1,r2,r3,r4⟩:=h.box j B hB
   have hgb:=hbb j B b hB r1
   refine ⟨b,r1,r2.mono hle (hleft.block b r2.lt (fun i hi=>?_) hgb),fun o hp=>?_,r4⟩
   ·obtain ⟨j',B',p1,p2,p3⟩:=hblk i b hi
    have:=h.inj j j' B B' b hB p2 r1 p3
    subst this
    exact hj (zyu p1)
   ·have h2:b < w.heap.size:=r2.lt
    rcases hleft.new b o hp with hp | ⟨hp,_⟩ | hp
    ·exact r3 o hp
    ·omega
    ·exact hgb hp
 ·obtain ⟨C,hC⟩:=hsome i B hB
  obtain ⟨C',hC'⟩:=hsome j B' hB'
  exact h.inj i j C C' b hC hC' q1 q2
 ·rw [htok] at hs
  obtain ⟨C,hC⟩:=hsome i B hB
  exact h.apart i C b s t e hC q1 hs
 ·rcases hleft.new b o hp with hp | ⟨_,hp⟩ | hp
  ·exact Nat.lt_of_lt_of_le (h.prlt b o hp) hleft.size
  ·exact hp
  ·exact Nat.lt_of_lt_of_le (hblt b hp) hleft.size
 ·refine ⟨hleft.os.trans h.keep.os,hleft.tape.trans h.keep.tape,hleft.output.trans h.keep.output,h.keep.drawn.trans hleft.drawn,Nat.le_trans h.keep.size hleft.size,fun k hk hn hh=>?_⟩
  rw [hleft.block k (Nat.lt_of_lt_of_le hk h.keep.size) (fun i hi=>?_) (fun hq=>F.mine_keep (hmine k hq) hk hh rfl)]
  ·exact h.keep.block k hk hn hh
  ·obtain ⟨j,B,_,q2,q3⟩:=hblk i k hi
   obtain ⟨b,r1,_,_,r4⟩:=h.box j B q2
   rw [q3] at r1; cases r1
   rcases r4 with r4 | r4
   ·exact Nat.lt_irrefl _ (Nat.lt_of_lt_of_le hk r4)
   ·exact hn r4
 ·rcases hleft.new b o hp with hp | ⟨hp,_⟩ | hp
  ·exact h.prnew b o hp
  ·exact .inr (.inl (Nat.le_trans h.keep.size hp))
  ·exact .inr (hmine b hp)
 ·rw [henv]
  exact (h.old s t e (htok s ▸ hs) hc).old (fun _ _ h=>h) (fun b o hp=>hle.cell b o (h.prsub b o hp))
theorem zl3 (f:Nat->Nat):∀ cs:List V,V.renL f cs = cs.map (V.ren f)
 | []=>by simp [V.renL]
 | c :: cs=>by simp [V.renL,zl3 f cs]
theorem zfe {st st':St} (hb:∀ i,st'.box i = st.box i):∀ {π:List Nat} {bs:List Box},YJ st π bs->YJ st' π bs
 | [],[],_=>trivial
 | [],_ :: _,h=>h.elim
 | _ :: _,[],h=>h.elim
 | i :: π,B :: bs,h=>⟨⟨(hb i).trans h.1.1,h.1.2⟩,zfe hb h.2⟩
theorem zn1 {o:Oper} {K:St->Prop} {c:Operand} {args:Array Operand} {tys:Array TypeId} {f:FuncId} {p ss tk tn:Nat} {e:TypeId} {rows:List V} {cap:List V} (ho:o.op = .call { callee:=.value c,args:=args,argTypes:=tys })
  (hc:st.eval c = .fn (.func f) [] cap) (hd:∀ d,o.dst = some d->d < n') (hgo:zbH P f = true) (hp:args.toList[p]? = some (.tmp ss)) (hss:st.env ss = .list rows) (htk:st.tok ss = some (tk,e)) (hcl:tcl tk = 0) (hbf:∀ i B,st.box i = some B->V.flatL B.cells = true)
  (htn:tcl tn = 0) {st1:St} (hw1:∀ {F:Fr} {a:Act} {w:World} {pr:Nat->Nat->Prop} {lam:Nat->Option Nat},zC P F (st.dropped tk) a w pr lam->zC P F st1 a w pr lam) (hwt:∀ s t e,st1.tok s = some (t,e)->(st.dropped tk).tok s = some (t,e)) (hwb:∀ i,st1.box i = st.box i) {π:List Nat} {args':List V} {ins outs:List Box} {res:V} (hπ:π.Nodup) (hnb:st.box st.nb = none)
  (hargs:((args.toList.map st1.eval).set p (.list rows))++cap = V.renL (fun i=>π.getD i st.nb) args') (hbx:YJ st π ins) (hlen:outs.length = ins.length) (hno:∀ B ∈ outs,V.noLocL B.cells = true) (hres:res.noLoc = true)
  (hcapf:V.flatL cap = true) (hf:FnM P f args' ins p e res outs) (hk:K (((st1.setBoxes π outs).clear tn).put o.dst res (some (tn,e)))):Y0 P n' o st K:=by
 intro F a w pr lam hF h next Q hn
 subst hF
 have h1:=h.eval c
 rw [hc] at h1
 simp only [R] at h1
 obtain ⟨xs,ys,e1,q1,q2⟩:=h1
 simp only [RL] at q1
 subst q1
 generalize hhb:zJ 0 (a.tmps.getD ss undef) = hb
 obtain ⟨hr0,htb0,hbb0,hmine⟩:=h.release htk hcl hbf hhb
 have hr:=hw1 hr0
 have htb:∀ s t e',st1.tok s = some (t,e')->∀ g,zJ (tcl t) (a.tmps.getD s undef) = some g->hb ≠ some g:=fun s t e' hq=>htb0 s t e' (hwt s t e' hq)
 have hbb:∀ i B b,st1.box i = some B->lam i = some b->hb ≠ some b:=fun i B b hq=>hbb0 i B b (by rw [<- hwb]; exact hq)
 have hplt:p < args.size:=by
  have:=(List.getElem?_eq_some_iff.1 hp).1
  simpa using this
 have hopp:args[p]? = some (.tmp ss):=by simpa using hp
 generalize hca:(([]:List Value).toArray++args.map a.eval++ys.toArray) = cargs
 have hcl':cargs.toList = args.toList.map a.eval++ys:=by rw [<- hca]; simp
 have hcp:cargs.getD p undef = a.tmps.getD ss undef:=by
  rw [Array.getD_eq_getD_getElem?,<- Array.getElem?_toList,hcl',List.getElem?_append_left (by simpa using hplt),List.getElem?_map,hp]
  rfl
 have hq2':RL ⟨w,prM pr hb,lam⟩ cap ys:=RL.flat cap ys hcapf q2
 have hrl:∀ (l:List Operand) ,RL ⟨w,prM pr hb,lam⟩ (l.map st1.eval) (l.map a.eval):=by
  intro l
  exact ZE (ρ:=st1.eval) (E:=⟨w,prM pr hb,lam⟩) (ac:=a) l fun x _=>hr.eval x
 have hoth:∀ j v,j ≠ p->(((args.toList.map st1.eval).set p (.list rows))++cap)[j]? = some v->∃ x,cargs.toList[j]? = some x/\R ⟨w,prM pr hb,lam⟩ v x:=by
  intro j v hj hv
  rw [hcl']
  by_cases hlt:j < args.toList.length
  ·rw [List.getElem?_append_left (by simpa using hlt),List.getElem?_set_ne (Ne.symm hj)] at hv
   rw [List.getElem?_append_left (by simpa using hlt)]
   exact (hrl args.toList).get j v hv
  ·rw [List.getElem?_append_right (by simpa using Nat.le_of_not_lt hlt)] at hv
   rw [List.getElem?_append_right (by simpa using Nat.le_of_not_lt hlt)]
   simp only [List.length_set,List.length_map] at hv ⊢
   exact hq2'.get _ v hv
 have hwe:Env.Le ⟨w,prM pr hb,lam⟩ ⟨w,pr,lam⟩:=⟨fun _ _ h=>h,fun _ _ h=>h.1,fun _ _ _=>rfl⟩
 have hlenA:cargs.toList.length = (((args.toList.map st1.eval).set p (.list rows))++cap).length:=by
  rw [hcl']
  have:=q2.length
  simp [this]
 have hall:RL ⟨w,pr,lam⟩ (((args.toList.map st1.eval).set p (.list rows))++cap) cargs.toList:=by
  refine RL.of_get hlenA.symm fun j v x hv hx=>?_
  by_cases hj:j = p
  ·subst hj
   rw [List.getElem?_append_left (by simpa using hplt),List.getElem?_set_self (by simpa using hplt)] at hv
   cases hv
   have hx':cargs.getD j undef = x:=by
    rw [Array.getD_eq_getD_getElem?,<- Array.getElem?_toList,hx]; rfl
   rw [<- hx',hcp,<- hss]
   exact h.env ss
  ·obtain ⟨x',hx',hR⟩:=hoth j v hj hv
   rw [hx] at hx'; cases hx'
   exact hR.mono hwe
 obtain ⟨hl1,hl2⟩:=Zm hbx
 have hren:∀ i b,((π[i]?).bind lam) = some b ↔ lam (π.getD i st.nb) = some b:=by
  intro i b
  cases hq:π[i]? with
  | none =>
   have:π.getD i st.nb = st.nb:=by simp [List.getD,hq]
   rw [this,h.nolam _ hnb]
   simp
  | some j =>
   have:π.getD i st.nb = j:=by simp [List.getD,hq]
   rw [this]
   simp
 unfold Oper.wp
 rw [zb9 ho e1 hgo,Oper.upon_enter,hca]
 rw [hargs] at hall hoth
 refine (hf w pr (fun i=>(π[i]?).bind lam) cargs h.hl ?_ (RL.ren (fun i b hi=>(hren i b).2 hi) _ _ hall) ?_ ?_ ?_ ?_).mono ?_
 ·-- the slice is the caller's own
  rw [hcp]
  intro g hg
  obtain ⟨q1,q3⟩:=h.own ss tk e htk g (by rw [hcl]; exact hg)
  refine ⟨⟨⟨fun k vs hq=>F.mine_gl q1 hq,F.mine_tn q1⟩,fun i hi=>?_⟩,q3⟩
  cases hq:π[i]? with
  | none=>simp [hq] at hi
  | some j =>
   simp only [hq,zyP] at hi
   have hi1:i < ins.length:=by have:=(List.getElem?_eq_some_iff.1 hq).1; omega
   obtain ⟨j',a1,a2,_⟩:=hl2 i _ (zys hi1)
   rw [hq] at a1; cases a1
   exact h.apart j _ g ss tk e a2 hi htk (by rw [hcl]; exact hg)
 ·intro j v hj hv
  rw [hcp,hhb]
  have hv':(V.renL (fun i=>π.getD i st.nb) args')[j]? = some (v.ren fun i=>π.getD i st.nb):=by
   rw [zl3,List.getElem?_map,hv]; rfl
  obtain ⟨x,hx,hR⟩:=hoth j _ hj hv'
  have hx':cargs.getD j undef = x:=by
   rw [Array.getD_eq_getD_getElem?,<- Array.getElem?_toList,hx]; rfl
  rw [hx']
  exact R.ren (fun i b hi=>(hren i b).2 hi) _ _ hR
 ·intro i B hB
  obtain ⟨j,p1,p2,p3⟩:=hl2 i B hB
  obtain ⟨b,r1,r2,r3,_⟩:=h.box j B p2
  exact ⟨b,by simp [p1,r1],r2.noLoc p3,r3⟩
 ·intro i j b hi hj
  cases hp:π[i]? with
  | none=>simp [hp] at hi
  | some p =>
   cases hq:π[j]? with
   | none=>simp [hq] at hj
   | some q =>
    simp only [hp,zyP] at hi
    simp only [hq,zyP] at hj
    have hi1:i < ins.length:=by have:=(List.getElem?_eq_some_iff.1 hp).1; omega
    have hj1:j < ins.length:=by have:=(List.getElem?_eq_some_iff.1 hq).1; omega
    obtain ⟨p',a1,a2,_⟩:=hl2 i _ (zys hi1)
    obtain ⟨q',b1,b2,_⟩:=hl2 j _ (zys hj1)
    rw [hp] at a1; cases a1
    rw [hq] at b1; cases b1
    have:=h.inj p q _ _ b a2 b2 hi hj
    subst this
    exact (List.getElem?_inj (by omega) hπ).1 (hp.trans hq.symm)
 ·intro i hi
  have:π[i]? = none:=by simp; omega
  simp [this]
 ·rintro en w' ⟨v,pr',rfl,hrv,hout,hleft,hown⟩
  rw [hcp,hhb] at hleft hown
  have hblt:∀ b,hb = some b->b < w.heap.size:=fun b hq=>by
   obtain ⟨_,n,cap',cur,sz,_,h3,_⟩:=h.own ss tk e htk b (by rw [hcl,hhb]; exact hq)
   exact (Array.getElem?_eq_some_iff.1 h3).1
  have hs:=hr.calledM htb hbb hmine hblt hπ (zfe (st:=st) (st':=st1) hwb hbx) hlen hno (fun i=>rfl) hout hleft
  refine hn _ _ w' pr' lam hk ((hs.clear tn).put hd (hrv.noLoc _ _ hres) ?_)
  have htok:∀ s t e',(st1.setBoxes π outs).tok s = some (t,e')->st1.tok s = some (t,e'):=fun s t e' hq=>by
   unfold St.tok at hq ⊢; rwa [Yd] at hq
  refine ⟨?_,fun s t' e' g hs' h1 h2=>?_,fun i B b hB hl hg=>?_,fun s e' hs'=>absurd rfl (zV hs').2.1,(fun hc'=>by rw [htn] at hc'; cases hc'),(fun s e' b o g hs'=>absurd rfl (zV hs').2.2),fun s u e' b o g hu=>?_⟩
  ·rw [htn]
   intro g hg
   obtain ⟨q1,q3⟩:=hown g hg
   refine ⟨?_,q3⟩
   rcases q1 with q1 | q1
   ·exact .inl (Nat.le_trans h.keep.size q1)
   ·exact hmine g q1
  ·exfalso
   have hs'':=htok _ _ _ (zV hs').1
   rw [htn] at h2
   obtain ⟨q1,_⟩:=hown g h2
   rcases q1 with q1 | q1
   ·obtain ⟨_,n,cap',cur,sz,_,h3,_⟩:=hr.own s t' e' hs'' g h1
    have:=(Array.getElem?_eq_some_iff.1 h3).1
    have h4:g < w.heap.size:=this
    omega
   ·exact htb s t' e' hs'' g h1 q1
  ·rw [htn] at hg
   obtain ⟨q1,_⟩:=hown b hg
   have hB':∃ B',st.box i = some B':=by
    cases hq:st.box i with
    | some B'=>exact ⟨B',rfl⟩
    | none=>have:=h.nolam i hq; rw [hl] at this; cases this
   obtain ⟨B',hB'⟩:=hB'
   rcases q1 with q1 | q1
   ·obtain ⟨b',r1,r2,_⟩:=h.box i B' hB'
    rw [hl] at r1; cases r1
    have h4:b < w.heap.size:=r2.lt
    omega
   ·exact hbb0 i B' b hB' hl q1
  ·exfalso
   have:tcl tn = 0:=htn
   rw [hu] at this
   unfold tcl at this
   omega
end
end Go.Eng
namespace Go.Eng
open Go.RowKit
section
variable {P:Program} {n':Nat} {F:Fr} {st:St} {a:Act} {w:World} {pr:Nat->Nat->Prop} {lam:Nat->Option Nat}
theorem zj6 (st:St):st.setBoxes [] [] = st:=rfl
end
end Go.Eng
namespace Go.Eng
open Go.RowKit
theorem zl4 {w:World} {g n:Nat} {cur:Array Value} {e:TypeId} (hg:w.heap[g]? = some (.cells cur e (0,0))) (k:Nat) :
  (w.freeze ⟨g,n,none⟩ 1).heap[k]? = if k = g then some (.cells cur e (n,n + 1)) else w.heap[k]?:=by
 unfold World.freeze
 rw [if_neg (by decide)]
 simp only [Array.getElem?_modify]
 by_cases h:g = k
 ·subst h; simp [hg]
 ·rw [if_neg h,if_neg (fun q=>h q.symm)]
section
variable {P:Program} {n':Nat} {F:Fr} {st:St} {a:Act} {w:World} {pr:Nat->Nat->Prop} {lam:Nat->Option Nat}
theorem zqV {o:Oper} {K:St->Prop} {t e:TypeId} {ss tk sz:Nat} {rows:List V} (ho:o.op = .convert t t (.tmp ss)) (hs:st.env ss = .list rows) (htk:st.tok ss = some (tk,e)) (hcl:tcl tk = 0)
  (ht:P.underlying t = some (.slice e)) (he:P.underlying e = some (.int .u8)) (hsz:sizeT P e = some sz) (hr:qL sz rows) (hfr:V.flatL rows = true) (hne:rows ≠ []) (hbf:∀ i B,st.box i = some B->V.flatL B.cells = true)
  {st1:St} (hw1:∀ {F:Fr} {a:Act} {w:World} {pr:Nat->Nat->Prop} {lam:Nat->Option Nat},zC P F (st.dropped tk) a w pr lam->zC P F st1 a w pr lam) (hwt:∀ s t e,st1.tok s = some (t,e)->(st.dropped tk).tok s = some (t,e)) (hwb:∀ i,st1.box i = st.box i)
  (hd:∀ d,o.dst = some d->d < n') (hk:K (st1.put o.dst (.list rows) none)):Y0 P n' o st K:=by
 intro F a w pr lam hF h next Q hn
 subst hF
 generalize hhb:zJ 0 (a.tmps.getD ss undef) = hb
 obtain ⟨hr00,htb00,hbb00,hmine⟩:=h.release htk hcl hbf hhb
 have hr0:=hw1 hr00
 have htb0:∀ s t e',st1.tok s = some (t,e')->∀ g,zJ (tcl t) (a.tmps.getD s undef) = some g->hb ≠ some g:=fun s t e' hq=>htb00 s t e' (hwt s t e' hq)
 have hbb0:∀ i B b,st1.box i = some B->lam i = some b->hb ≠ some b:=fun i B b hq=>hbb00 i B b (by rw [<- hwb]; exact hq)
 obtain ⟨g,cap,cur,hv,hc,hm,hg,hN,hcu,hcs,hrr,hpr⟩:=h.own0 hs htk hcl hsz hr hne
 have hbg:hb = some g:=hhb.symm.trans hg
 subst hbg
 let w':=w.freeze ⟨g,cur.size,none⟩ 1
 have hw':∀ k,w'.heap[k]? = if k = g then some (.cells cur e (cur.size,cur.size + 1)) else w.heap[k]?:=zl4 hcu
 have hrun:(execOp a.eval o).run P w = .ok (.value (.slice (some ⟨g,0,none⟩) rows.length cap)) w':=by
  have e1:a.eval (.tmp ss) = .slice (some ⟨g,0,none⟩) rows.length cap:=hv
  have hsh:w.shape? g = some (e,cur.size):=by
   unfold World.shape?
   rw [hcu]
  simp only [execOp,ho,e1]
  simp [convert,run_underlying ht,run_underlying he,markStringish,hsh,w']
 unfold Oper.wp
 rw [hrun,Oper.upon_value]
 have hblt:∀ b,some g = some b->b < w.heap.size:=fun b hq=>by
  cases hq
  exact (Array.getElem?_eq_some_iff.1 hcu).1
 have hszw:w'.heap.size = w.heap.size:=by
  show (w.freeze ⟨g,cur.size,none⟩ 1).heap.size = _
  unfold World.freeze
  rw [if_neg (by decide)]
  simp
 have hos:w'.os = w.os:=by show (w.freeze ⟨g,cur.size,none⟩ 1).os = _; unfold World.freeze; rw [if_neg (by decide)]
 have htape:w'.tape = w.tape:=by show (w.freeze ⟨g,cur.size,none⟩ 1).tape = _; unfold World.freeze; rw [if_neg (by decide)]
 have hout:w'.output = w.output:=by show (w.freeze ⟨g,cur.size,none⟩ 1).output = _; unfold World.freeze; rw [if_neg (by decide)]
 have hdr:w'.drawn = w.drawn:=by show (w.freeze ⟨g,cur.size,none⟩ 1).drawn = _; unfold World.freeze; rw [if_neg (by decide)]
 let pr':Nat->Nat->Prop:=fun b o=>prM pr (some g) b o ∨ (b = g/\o < rows.length * sz)
 have hleft:zp4 w pr (fun j=>(([]:List Nat)[j]?).bind lam) (some g) w' pr':=⟨hos,htape,hout,DLE.of_eq hdr,by rw [hszw]; exact Nat.le_refl _,fun k _ _ hk'=>by rw [hw',if_neg (fun q=>hk' (by rw [q]))],fun b o hp hq=>.inl ⟨hp,hq⟩,fun b o hp=>by
  rcases hp with hp | ⟨hp,_⟩
  ·exact .inl hp
  ·exact .inr (.inr (by rw [hp]))⟩
 have hs':=hr0.calledM htb0 hbb0 hmine hblt List.nodup_nil (show YJ st1 [] [] from trivial) rfl (outs:=[]) (by simp) (lam':=fun j=>(([]:List Nat)[j]?).bind lam) (fun j=>rfl) (fun j B hB=>by simp at hB) hleft
 rw [zj6] at hs'
 refine hn _ _ w' pr' lam hk (hs'.put hd ?_ trivial)
 simp only [R]
 refine ⟨some ⟨g,0,none⟩,cap,rfl,hc,hm,.inr ⟨g,0,sz,rfl,?_⟩⟩
 refine RR.of_get fun j r hj=>?_
 have hjl:j < rows.length:=(List.getElem?_eq_some_iff.1 hj).1
 obtain ⟨z,p1,p2,p3⟩:=hrr.get j r hj
 refine ⟨z,R.flat r z (zeh hfr r (zyu hj)) p1,p2,fun q u hq=>?_⟩
 obtain ⟨p4,p5⟩:=p3 q u hq
 refine ⟨⟨?_,.inr ⟨rfl,?_⟩⟩,p5⟩
 ·have h1:=p4.1
  show w'.cell? _ = _
  unfold World.cell? at h1 ⊢
  dsimp only at h1 ⊢
  rw [hcu] at h1
  rw [hw',if_pos rfl]
  exact h1
 ·have hqs:q < sz:=by
   have:=(Array.getElem?_eq_some_iff.1 hq).1
   omega
  have:(j + 1) * sz <= rows.length * sz:=Nat.mul_le_mul_right _ (by omega)
  rw [Nat.add_mul,Nat.one_mul] at this
  omega
theorem zfS {o:Oper} {K:St->Prop} {x:Operand} {ss tk:Nat} {t u e:TypeId} {rows rows2:List V} {sz by':Nat} {zv:V}
  (ho:o.op = .call { callee:=.builtin .append,args:=#[.tmp ss,x],argTypes:=#[t,u] }) (hs:st.env ss = .list rows) (htk:st.tok ss = some (tk,e))
  (hcl:tcl tk < 2) (ht:P.underlying t = some (.slice e)) (hu:srcT P u = true) (hsz:sizeT P e = some sz) (hby:bytesT P e = some by') (hz:zeroT P e = some zv) (hzs:zv.csize = some sz)
  (hr1:qL sz rows)
  (hx:∀ (w:World) (pr:Nat->Nat->Prop) (lam:Nat->Option Nat) (xv:Value),R ⟨w,pr,lam⟩ (st.eval x) xv->∃ ys,Src P w pr lam sz xv rows2 ys)
  (hb:(rows.length + rows2.length) * by' <= 140737488355328) (hl:rows.length + rows2.length <= maxLen)
  {tn:Nat} (htn:tcl tn = 0) (hne:rows2.length ≠ 0)
  (hd:∀ d,o.dst = some d->d < n') (hk:K (((st.clear tk).clear tn).put o.dst (.list (rows++rows2)) (some (tn,e)))):Y0 P n' o st K:=by
 intro F a w pr lam hF h next Q hn
 subst hF
 obtain ⟨i,z,i1,i2,i3,i4,i5⟩:=zvS hsz hby hz
 have hzc:z.cells.size = sz:=(QD ⟨w,pr,lam⟩ z).csize (by rw [i5]; exact hzs)
 have hss:=h.env ss
 rw [hs] at hss
 obtain ⟨ysOld,srcOld⟩:=Src.list (P:=P) hss hr1
 obtain ⟨ys,src⟩:=hx w pr lam _ (h.eval x)
 have hss':=hss
 simp only [R] at hss
 obtain ⟨base,cap,hv,hc,hm,hbase⟩:=hss
 have hmaxl:rows.length + rows2.length <= 9223372036854775807:=by simp only [maxLen] at hl; omega
 have hexec:∀ {v' w'},(Builtin.append_ #[t,u] o.type #[.slice base rows.length cap,a.eval x]).run P w = .ok v' w'->(execOp a.eval o).run P w = .ok (.value v') w':=by
  intro v' w' hr
  have hv':a.eval (.tmp ss) = .slice base rows.length cap:=hv
  simp only [execOp,ho,resolve,invoke,builtin,Sem.run_bind,Sem.run_pure,Result.andThen_ok,List.map_toArray,List.map_cons,List.map_nil,hv',hr]
 by_cases h0:rows2.length = 0
 ·exact absurd h0 hne
 ·by_cases hroom:rows.length + rows2.length <= cap
  ·-- in place
   have hgb:∃ b o',base = some ⟨b,o',none⟩:=by
    rcases hbase with ⟨_,_,rfl⟩ | ⟨b,o',k,rfl,_⟩
    ·omega
    ·exact ⟨b,o',rfl⟩
   obtain ⟨g,og,rfl⟩:=hgb
   have hgbl:zJ (tcl tk) (a.tmps.getD ss undef) = some g:=by
    rw [hv]
    have:tcl tk = 0/\0 < cap ∨ tcl tk = 1/\rows.length < cap:=by omega
    simp only [zJ,if_pos this]
   obtain ⟨hN,n',cap',cur,sz',q1,q2,q3,q4,q5⟩:=h.own ss tk e htk g hgbl
   rw [hv] at q1
   simp only [Value.slice.injEq,zyO,Addr.mk.injEq] at q1
   obtain ⟨⟨_,rfl,_⟩,rfl,rfl⟩:=q1
   obtain rfl:sz = sz':=by simp [i1] at q3; omega
   have hfl:(zm ys).length = rows2.length * sz:=by rw [yB src.size,<- src.rel.length]
   have hfo:(zm ysOld).length = rows.length * sz:=by rw [yB srcOld.size,<- srcOld.rel.length]
   have hfit:rows.length * i.size + (zm ys).length <= cur.size:=by
    rw [i2,hfl,q4,<- Nat.add_mul]; exact Nat.mul_le_mul_right _ hroom
   have hrun:=zcz (ty:=o.type) ht hu i1 (w:=w) (g:=g) (sLen:=rows.length) (sCap:=cap) q2 (src.len w) (by rw [i2]; exact src.first w (fun _ _ _=>rfl)) src.one hroom hfit
   unfold Oper.wp
   rw [hexec hrun,Oper.upon_value]
   rw [i2] at hfit ⊢
   generalize hcur':(cur.toList.take (rows.length * sz)++zm ys++cur.toList.drop (rows.length * sz + (zm ys).length)).toArray = cur'
   have hget:∀ j:Nat,cur'[j]? = if j < rows.length * sz then cur[j]? else if j < rows.length * sz + (zm ys).length then (zm ys)[j - rows.length * sz]? else cur[j]?:=by
    intro j
    rw [<- hcur']
    have hmin:min (rows.length * sz) cur.size = rows.length * sz:=by omega
    simp only [List.getElem?_toArray,List.getElem?_append,zyQ,List.length_take,Array.length_toList,hmin,List.getElem?_take,List.getElem?_drop,Array.getElem?_toList]
    by_cases c1:j < rows.length * sz
    ·simp [c1]; omega
    ·by_cases c2:j < rows.length * sz + (zm ys).length
     ·simp [c1,c2]
     ·simp only [c1,c2,if_false]
      congr 1; omega
   have hsize':cur'.size = cur.size:=by
    rw [<- hcur']
    simp; omega
   have hrel:=h.grow (m:=rows2.length) hcl htk hv (by omega) q2 hN (cur':=cur') (fun j hj=>by rw [hget]; simp [hj]) q5
   have hle:Env.Le ⟨w,pr,lam⟩ ⟨w.setRow g cur',fun b o=>pr b o ∨ (b = g/\rows.length * sz <= o/\o < (rows.length + rows2.length) * sz),lam⟩:=by
    refine ⟨fun _ _ h=>h,fun _ _ h=>.inl h,fun b o hp=>?_⟩
    show (w.setRow g cur').cell? _ = _
    by_cases hb:b = g
    ·subst hb
     have ho:o < rows.length * sz:=by
      rcases Nat.lt_or_ge o (rows.length * sz) with q | q
      ·exact q
      ·exact absurd hp (q5 o q)
     rw [cell_setRow_same w b o cur cur' e (0,0) q2,hget]
     simp [ho,World.cell?,q2]
    ·exact cell?_setRow_ne hb
   refine hn _ _ _ _ lam hk ((hrel.clear tn).put hd ?_ ?_)
   ·simp only [R]
    refine ⟨some ⟨g,0,none⟩,cap,by rw [zyQ],by rw [zyQ]; exact hroom,hm,.inr ⟨g,0,sz,rfl,?_⟩⟩
    refine RR.of_vals (ys:=ysOld++ys) ((srcOld.rel.mono hle).append (src.rel.mono hle)) (fun y hy=>?_) fun j z hz=>?_
    ·rcases List.mem_append.1 hy with hy | hy
     ·exact srcOld.size y hy
     ·exact src.size y hy
    ·rw [qR,List.getElem?_append,hfo] at hz
     rw [Nat.zero_add]
     split at hz
     ·rename_i hj
      rcases hbase with ⟨hbn,_⟩ | ⟨b',o2,k',hbe,hrr⟩
      ·simp [hbn] at hj
      ·simp only [zyO,Addr.mk.injEq] at hbe
       obtain ⟨rfl,rfl,_⟩:=hbe
       have hk':k' = sz:=by
        rcases rows with _ | ⟨r,rs⟩
        ·simp at hj
        ·exact hrr.size hr1 (r:=r) (by simp)
       subst hk'
       obtain ⟨ys0,p1,p2,p3⟩:=hrr.vals
       have hf0:=srcOld.first w (fun _ _ _=>rfl)
       have hl0:(zm ys0).length = rows.length * k':=by rw [yB p2,<- p1.length]
       have hf1:(Builtin.firstCells k' rows.length (.slice (some ⟨g,0,none⟩) rows.length cap)).run P w = .ok (zm ys0).toArray w:=by
        have:=run_loadCells_list (P:=P) w ⟨g,0,none⟩ (zm ys0) (fun j v hv'=>by rw [Addr.add_none]; exact (p3 j v hv').1.1)
        rw [hl0] at this
        simpa [Builtin.firstCells] using this
       rw [hv] at hf0
       rw [hf0] at hf1
       simp only [Result.ok.injEq,and_true] at hf1
       have hfe:zm ysOld = zm ys0:=by simpa using congrArg Array.toList hf1
       rw [hfe] at hz
       obtain ⟨r1,r2⟩:=p3 j z hz
       rw [Nat.zero_add] at r1
       exact ⟨hle.at r1,r2⟩
     ·rename_i hj
      have hjlt:j - rows.length * sz < (zm ys).length:=(List.getElem?_eq_some_iff.1 hz).1
      refine ⟨⟨?_,.inr ⟨rfl,by omega,?_⟩⟩,src.one z (zyu hz)⟩
      ·show (w.setRow g cur').cell? _ = _
       rw [cell_setRow_same w g j cur cur' e (0,0) q2,hget,if_neg hj,if_pos (by omega)]
       exact hz
      ·rw [Nat.add_mul]; omega
   ·refine ⟨fun g' hg'=>?_,fun s t' e' g' hs' h1 h2=>?_,fun i' B b hB hl' hg'=>?_,fun s e' hs=>absurd rfl (zV hs).2.1,fun hc'=>(by rw [htn] at hc'; cases hc'),fun s e' b o g hs=>absurd rfl (zV hs).2.2,fun s u e' b o g hu'=>by exfalso; unfold tcl at htn; omega⟩
    ·have hg'':g' = g:=by
      simp only [zJ] at hg'
      split at hg'
      ·cases hg'; rfl
      ·cases hg'
     subst hg''
     refine ⟨hN,rows.length + rows2.length,cap,cur',sz,rfl,setRow_heap w g' cur cur' e (0,0) q2,by simp [i1,i2],by rw [hsize',q4],fun o ho hp=>?_⟩
     rcases hp with hp | ⟨_,_,hp⟩
     ·refine q5 o ?_ hp
      rw [Nat.add_mul] at ho; omega
     ·omega
    ·exfalso
     have hg'':g' = g:=by
      simp only [zJ] at h2
      split at h2
      ·cases h2; rfl
      ·cases h2
     rw [hg''] at h1
     obtain ⟨r1,r2,_⟩:=zV (zV hs').1
     exact r2 (h.coh s ss t' tk e' e g r1 htk h1 hgbl)
    ·have hg'':b = g:=by
      simp only [zJ] at hg'
      split at hg'
      ·cases hg'; rfl
      ·cases hg'
     rw [hg''] at hl'
     exact h.apart i' B g ss tk e hB hl' htk hgbl
  ·-- a new array
   have hge:=grownCap_ge w (rows.length + rows2.length) cap e
   have hcm:grownCap w (rows.length + rows2.length) cap e <= maxLen:=grownCap_le_maxLen w _ cap e hl
   have hof:=srcOld.first w.drew (fun _ _ _=>rfl)
   rw [hv] at hof
   have hxf:=src.first w.drew (fun _ _ _=>rfl)
   have hrun:=run_append_new (ty:=o.type) (base:=base) ht hu i1 i4 (w:=w) (src.len w) (by rw [i2]; exact hxf) (by rw [i2]; exact hof) (by omega) (by omega) (growslice_fits (by omega) (by rw [i3]; exact hb))
   unfold Oper.wp
   rw [hexec hrun,Oper.upon_value]
   generalize grownCap w (rows.length + rows2.length) cap e = nc at hge hcm ⊢
   have hfl:(zm ys).length = rows2.length * sz:=by rw [yB src.size,<- src.rel.length]
   have hfo:(zm ysOld).length = rows.length * sz:=by rw [yB srcOld.size,<- srcOld.rel.length]
   generalize hw':w.drew.alloc (.cells ((zm ysOld).toArray++(zm ys).toArray++Builtin.zeroCells z.cells (nc - (rows.length + rows2.length))) e) = w'
   have hnew:w'.heap[w.heap.size]? = some (.cells ((zm ysOld).toArray++(zm ys).toArray++Builtin.zeroCells z.cells (nc - (rows.length + rows2.length))) e):=by
    rw [<- hw']; exact heap_alloc_new w.drew _
   have hwsz:w'.heap.size = w.heap.size + 1:=by rw [<- hw']; simp
   have hbel:Below w.heap.size w w':=by
    rw [<- hw']
    exact ((Below.refl _ _).drew).alloc (Nat.le_refl _) _
   have hext:Ext w pr w' (fun b o=>pr b o ∨ (b = w.heap.size/\o < (rows.length + rows2.length) * sz)) :=
    Ext.protect w pr w' hbel (by rw [<- hw']; exact (DLE.drewN w 1).trans (DLE.of_eq rfl)) _ (fun b o hp=>by rw [hp.1]; omega)
   have hle:=hext.le (lam:=lam) h.prlt
   have hcells:∀ j z',(zm (ysOld++ys))[j]? = some z'->w'.cell? ⟨w.heap.size,j,none⟩ = some z':=by
    intro j z' hz'
    rw [qR] at hz'
    have hlt:j < (zm ysOld++zm ys).length:=(List.getElem?_eq_some_iff.1 hz').1
    simp only [World.cell?,hnew]
    simp only [Option.isSome_none,Bool.false_eq_true,if_false]
    rw [Array.getElem?_append,if_pos (by simpa using hlt)]
    simpa using hz'
   refine hn _ _ w' _ lam hk ((((h.ext hext).clear tk).clear tn).put hd ?_ ?_)
   ·simp only [R]
    refine ⟨some ⟨w.heap.size,0,none⟩,nc,by rw [zyQ],by rw [zyQ]; exact hge,hcm,.inr ⟨w.heap.size,0,sz,rfl,?_⟩⟩
    refine RR.of_vals (ys:=ysOld++ys) ((srcOld.rel.mono hle).append (src.rel.mono hle)) (fun y hy=>?_) fun j z' hz'=>?_
    ·rcases List.mem_append.1 hy with hy | hy
     ·exact srcOld.size y hy
     ·exact src.size y hy
    ·rw [Nat.zero_add]
     have hlt:j < (zm (ysOld++ys)).length:=(List.getElem?_eq_some_iff.1 hz').1
     rw [qR,zyQ,hfo,hfl,<- Nat.add_mul] at hlt
     refine ⟨⟨hcells j z' hz',.inr ⟨rfl,hlt⟩⟩,?_⟩
     have hm':=zyu hz'
     rw [qR] at hm'
     rcases List.mem_append.1 hm' with hm' | hm'
     ·exact srcOld.one z' hm'
     ·exact src.one z' hm'
   ·have hown:Own P (fun g=>w.heap.size <= g) ⟨w',fun b o=>pr b o ∨ (b = w.heap.size/\o < (rows.length + rows2.length) * sz),lam⟩ (tcl tn) e (.slice (some ⟨w.heap.size,0,none⟩) (rows.length + rows2.length) nc):=by
     intro g hg
     have hg'':g = w.heap.size:=by
      simp only [zJ] at hg
      split at hg
      ·cases hg; rfl
      ·cases hg
     subst hg''
     refine ⟨Nat.le_refl _,_,nc,_,sz,rfl,hnew,by simp [i1,i2],?_,fun o ho hp=>?_⟩
     ·simp only [Array.size_append,List.size_toArray,size_zeroCells,hzc,hfo,hfl,<- Nat.add_mul]
      congr 1; omega
     ·rcases hp with hp | ⟨_,hp⟩
      ·have:=h.prlt _ _ hp; omega
      ·omega
    exact zi8.fresh (h.clear tk) hext tn (by rw [htn]; decide) hown
end
end Go.Eng
namespace Go.Eng
open Go.RowKit
def QA (P:Program) (ops:Array Oper):Nat->Array Bool->St->(St->Prop)->Prop
 | 0,listed,st,K=>Region.ready .any ops listed = []/\K st
 | fuel + 1,listed,st,K=>match Region.ready .any ops listed with
  | []=>K st
  | i :: is=>match (i :: is).find? (zge ops listed) with
   | some j=>(match ops[j]? with
    | some o=>zgC P o st fun st'=>QA P ops fuel (listed.setIfInBounds j true) st' K
    | none=>False)
   | none=>∀ j ∈ i :: is,match ops[j]? with
    | some o=>znR (ops.toList.map (·.dst)) st o.guard (zfR P false o st fun st'=>QA P ops fuel (listed.setIfInBounds j true) st' K) (QA P ops fuel (listed.setIfInBounds j true) (st.put o.dst .un none) K)
    | none=>False
section
variable {P:Program} {n':Nat}
theorem Qg {ops:Array Oper} {K:St->Prop} (hall:∀ (i:Nat) (o:Oper),ops[i]? = some o->Qx n' o = true) (hns:Region.noSelect ops = true) {F:Fr} (hF:F.nt = n') {Q:Exit->Act->World->Prop} (hp:∀ c a w,¬ Q (.panic c) a w)
  (hn:∀ st' a' w' pr' lam',K st'->zC P F st' a' w' pr' lam'->Q .normal a' w'):∀ (fuel:Nat) (listed:Array Bool) (st:St) (a:Act) (w:World) (pr:Nat->Nat->Prop) (lam:Nat->Option Nat),
   QA P ops fuel listed st K->zC P F st a w pr lam->wpAny P .any ops Q fuel listed a w
 | 0,listed,st,a,w,pr,lam,h,hs=>⟨h.1,hn st a w pr lam h.2 hs⟩
 | fuel + 1,listed,st,a,w,pr,lam,h,hs=>by
  unfold QA at h
  split at h
  ·rename_i hr
   exact ⟨fun _=>hn st a w pr lam h hs,by rw [hr]; simp⟩
  ·rename_i i is hr
   split at h
   ·rename_i j hj
    have hm:=List.mem_of_find?_eq_some hj
    have hc:=List.find?_some hj
    split at h
    ·rename_i o ho
     unfold zge at hc
     rw [ho] at hc
     simp only [zyL] at hc
     obtain ⟨v,st',hy,hk,hs'⟩:=zj5 (ops:=ops) (hall j o ho) hc.1 h hF hs
     refine wpAny_take ho hns hc.2 (by rw [hr]; simpa using hm) (fun c a w q=>absurd q (hp c _ w)) hy ?_
     exact Qg hall hns hF hp hn fuel _ st' _ w pr lam hk hs'
    ·exact h.elim
   ·refine ⟨fun h0=>(by rw [hr] at h0; cases h0),fun j hj=>?_⟩
    rw [hr] at hj
    have h:=h j hj
    unfold wpOp
    split at h
    ·rename_i o ho
     rw [ho]
     have hd:=hall j o ho
     rcases zaq.1 h with ⟨hg,h⟩ | ⟨hg,h⟩
     ·simp only
      rw [YB hs hg]
      simp only [if_true]
      left
      exact Qy hd h F a w pr lam hF hs _ _ fun st' a' w' pr' lam' hk hs'=>Qg hall hns hF hp hn fuel _ st' a' w' pr' lam' hk hs'
     ·simp only
      rw [YB hs hg]
      simp only [Bool.false_eq_true,if_false]
      exact Qg hall hns hF hp hn fuel _ _ _ w pr lam h (hs.putUn (by rw [hF]; exact YA hd))
    ·exact h.elim
theorem AWp.full (hm:P.follows .mixedOrders = true) {id:Nat} {ops:Array Oper} {st:St} {Q:Exit->St->Prop} (hall:ops.toList.all (Qx n') = true) (hns:Region.noSelect ops = true)
  (h:QA P ops ops.size (Array.replicate ops.size false) st (Q .normal)):AWp P n' (.region id ops true) st Q:=by
 intro F a w pr lam hF hs
 have key:(Code.region id ops true).wp P (fun ex a' w'=>ex = .normal/\∃ st' pr' lam',Q .normal st'/\zC P F st' a' w' pr' lam') a w:=by
  refine wp_region_any hm ?_
  exact Qg (fun i o ho=>List.all_eq_true.1 hall o (by simpa using Array.mem_of_getElem? ho)) hns hF (fun c a w q=>by cases q.1) (fun st' a' w' pr' lam' k r=>⟨rfl,st',pr',lam',k,r⟩) _ _ st a _ pr lam h hs.drew
 refine wp_mono key ?_
 rintro ex a' w' ⟨rfl,q⟩
 exact q
end
end Go.Eng
namespace Go.Eng
open Go.RowKit Go.WideMaps
theorem zgE {k:IntKind} {n:Int} (h:k.wrap n = n):(Lit.int k n).wf = true:=by
 have:=wf_wrap k n
 rwa [h] at this
theorem KeyT.str {P:Program} {kt:TypeId} (hu:P.underlying kt = some .string):KeyT P kt:=by
 refine ⟨Maps.string_keyed hu,fun ag ks hk E v x ok hr=>?_⟩
 have e:keyT P kt = some (false,[.str]):=by simp [keyT,aggT,Yl,hu]
 rw [e] at hk; cases hk
 obtain ⟨h1,h2,h3⟩:=ok
 cases v <;> simp [isAgg] at h1 <;> simp [V.cellsL,Z0] at h3
 simp only [R] at hr
 obtain ⟨rfl,hr⟩:=hr
 exact ⟨_,keyOf_string_mk hu (by simpa [ByteArray.size] using hr)⟩
theorem KeyT.pair {P:Program} {kt e:TypeId} {q:IntKind} (A:ArrKey P kt e 2) (he:P.underlying e = some (.int q)) (hsz:∃ m,P.types.size = m + 1) (K:KeyLaw P kt) (hk0:keyT P kt = some (true,[.int q,.int q])):KeyT P kt:=by
 refine ⟨.of_law K,fun ag ks hk E v x ok hr=>?_⟩
 rw [hk0] at hk; cases hk
 obtain ⟨h1,h2,h3⟩:=ok
 cases v <;> simp [isAgg] at h1
 rename_i cs
 simp only [V.cellsL] at h3
 match cs,h3 with
 | [.int k0 a,.int k1 b],h3 =>
  simp only [Z0,and_true] at h3
  obtain ⟨⟨rfl,ha⟩,rfl,hb⟩:=h3
  simp only [R,RL] at hr
  obtain ⟨xs,rfl,hr,_⟩:=hr
  obtain ⟨y,ys,rfl,rfl,y1,ys1,rfl,rfl,rfl⟩:=hr
  exact ⟨_,keyOf_pair A he hsz (zgE ha) (zgE hb)⟩
def zct {α β:Type} [DecidableEq α]:List (α × β)->α->Option β
 | [],_=>none
 | (a,b) :: m,k=>if a = k then some b else zct m k
def zfT {α β:Type} [DecidableEq α]:List (α × β)->α->β->List (α × β)
 | [],k,v=>[(k,v)]
 | (a,b) :: m,k,v=>if a = k then (k,v) :: m else (a,b) :: zfT m k v
def zgF {α β:Type} (ek:α->V) (ev:β->V) (m:List (α × β)):List V:=m.map fun e=>.tup [ek e.1,ev e.2]
section
variable {α β:Type} [DecidableEq α] {ek:α->V} {ev:β->V}
theorem zn2 (hk:∀ a b,Zs (ek a) (ek b) = decide (a = b)) (m:List (α × β)) (k:α):Z7 (zgF ek ev m) (ek k) = (zct m k).map ev:=by
 induction m with
 | nil=>rfl
 | cons e m ih =>
  obtain ⟨a,b⟩:=e
  show (if Zs (ek a) (ek k) then some (ev b) else Z7 (zgF ek ev m) (ek k)) = _
  rw [hk,ih]
  simp only [zct,decide_eq_true_eq]
  split <;> rfl
theorem zn3 (hk:∀ a b,Zs (ek a) (ek b) = decide (a = b)) (m:List (α × β)) (k:α) (v:β):Y2 (zgF ek ev m) (ek k) (ev v) = zgF ek ev (zfT m k v):=by
 induction m with
 | nil=>rfl
 | cons e m ih =>
  obtain ⟨a,b⟩:=e
  show (if Zs (ek a) (ek k) then .tup [ek k,ev v] :: zgF ek ev m else .tup [ek a,ev b] :: Y2 (zgF ek ev m) (ek k) (ev v)) = _
  rw [hk,ih]
  simp only [zfT,decide_eq_true_eq]
  split <;> rfl
omit [DecidableEq α] in
theorem zgG {ag:Bool} {ks:List CK} (m:List (α × β)) (h:∀ e ∈ m,zbo ag ks (ek e.1)):zaL ag ks (zgF ek ev m):=by
 induction m with
 | nil=>trivial
 | cons e m ih =>
  exact ⟨⟨ek e.1,ev e.2,rfl,h e (by simp)⟩,ih fun e' he=>h e' (by simp [he])⟩
end
end Go.Eng
