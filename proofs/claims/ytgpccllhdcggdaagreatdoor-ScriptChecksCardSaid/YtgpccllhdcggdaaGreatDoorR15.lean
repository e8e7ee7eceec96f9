import Derived.Test.YtgpccllhdcggdaaGreatDoorRW
import Derived.Lib.MakeNoZero
open Nat renaming le_refl -> zyF
open Array renaming getElem?_eq_getElem -> zyK
open Bool renaming and_eq_true -> zyL
open Nat renaming eq_of_beq_eq_true -> zyM
open Option.some renaming injEq -> zyO
set_option linter.unusedSimpArgs false
set_option linter.unusedVariables false
noncomputable section
namespace Go.Run
open Go.RowKit
def aev (tm:T Value):Ev
 | .tmp s=>ZB tm s
 | .const v=>v
 | .global g=>.pointer (some ⟨g,0,none⟩)
 | .func f=>.func (.func f) #[] #[]
def zfi (G:Nat) (o:Oper):Bool:=o.op.operands.toList.all fun
 | .const v=>flat v
 | .global g=>Nat.blt (g + 1) G
 | _=>true
inductive XR where
 | vals (l:List (Value × AH))
 | call (f:FuncId) (args:List Value)
 | round (l:Nat) (args:List Value)
def zkv (P:Program) (H:AH) (t:TypeId) (v:Value) (name:String):Option (FuncId × Value) :=
 match P.info? t with
 | some ti=>match ti.methods.find? (·.name == name) with
  | some m=>cond m.path.isEmpty (match m.func,P.underlying t with
   | some (f,true),some (.pointer _)=>some (f,v)
   | some (f,false),some (.pointer e)=>(match zmL P H e v with
    | some r=>some (f,r)
    | none=>none)
   | some (f,false),some _=>some (f,v)
   | _,_=>none) none
  | none=>none
 | none=>none
def zkw (f:FuncId) (args:Array Value):Sem Value:=do
 match <- callFunc f args with
 | .value v=>pure v
 | _ => stuck "no value"
def zg1 (P:Program) (f:FuncId):Bool:=match P.funcs[f]? with
 | some fn => fn.body.isNone && fn.name == "internal/abi.NoEscape" && fn.origin == ""
 | none=>false
def zkx (P:Program) (H:AH) (f:FuncId):List Value->XR
 | [x]=>cond (zg1 P f) (.vals [(x,H)]) (.vals [])
 | _=>.vals []
def zsV (P:Program) (f:FuncId):Option TypeId:=match P.funcs[f]? with
 | some fn => cond (fn.body.isNone && fn.name == "internal/bytealg.MakeNoZero" && fn.origin == "" && Nat.beq fn.resultTypes.size 1) (match fn.resultTypes[0]? with
  | some t=>(match P.underlying t with | some (.slice e)=>some e | _=>none)
  | none=>none) none
 | none=>none
def zmr (P:Program) (H:AH) (f:FuncId):List Value->Option (Value × AH)
 | [.int .i64 n]=>match zsV P f with
  | some e=>cond ((match n with | .ofNat _=>true | _=>false) && Nat.ble n.toNat 281474976710656 && zq H.nx)
   (some (.slice (some ⟨H.nx,0,none⟩) n.toNat 1,H.push (.cells 0 .nil e (some 1) (0,0)))) none
  | none=>none
 | _=>none
def zfj (P:Program) (H:AH) (F:T Func) (f:FuncId) (args:List Value):XR :=
 match F.get f with
 | some fn=>cond (Nat.ble args.length fn.ntmps && zq fn.ntmps) (.call f args) (.vals [])
 | none=>cond (args.all flat) (match yu P (zkw f args.toArray) with
  | some v=>cond (flat v) (.vals [(v,H)]) (.vals [])
  | none=>.vals []) (zkx P H f args)
def zwD:XR->Option (Value × AH)->XR
 | .vals [],some x=>.vals [x]
 | r,_=>r
def zxA (H:AH):Option Value->XR
 | some v=>.vals [(v,H)]
 | none=>.vals []
def zqe:Option AH->XR
 | some H=>.vals [(undef,H)]
 | none=>.vals []
def zms:Option (Value × AH)->XR
 | some x=>.vals [x]
 | none=>.vals []
def zvm (P:Program) (t:TypeId):Bool:=match P.underlying t with
 | some (.int _)=>true
 | _=>false
def zcd (P:Program) (H:AH) (t u:TypeId) (s x:Value):Option (Value × AH) :=
 match Q2 P t with
 | some (none,e)=>match P.info? e,x with
  | some i,.int .i64 n=>match i.zero with
   | some z=>cond (zvm P u && (match n with | .ofNat _=>true | _=>false) && Nat.blt 0 n.toNat && Nat.beq z.cells.size i.size && Nat.blt 0 i.size && z.cells.toList.all (·.oneCell') && z.cells.toList.all flat && Nat.ble (n.toNat * i.bytes) 140737488355328 && Nat.ble n.toNat 4294967296 && zq (n.toNat * i.size) && zq H.nx)
    (match s with
    | .slice none 0 0=>some (.slice (some ⟨H.nx,0,none⟩) n.toNat (2 * n.toNat + 1),H.push (.cells (n.toNat * i.size) (T.setRow .nil 0 (Builtin.zeroCells z.cells n.toNat).toList) e (some i.size) (0,0)))
    | _=>none) none
   | none=>none
  | _,_=>none
 | _=>none
def zjk (P:Program) (G:Nat) (H:AH) (s d:TypeId) (x:Value):Option (Value × AH) :=
 cond (Nat.beq s d && zcj P s) (match x with
  | .slice (some ⟨b,o,none⟩) n c=>match H.get b with
   | some (.cells nn tr ty op (0,0))=>cond (Nat.ble G b && zq b && Nat.beq o 0) (some (.slice (some ⟨b,o,none⟩) n c,H.set b (.cells nn tr ty op (1,0)))) none
   | _=>none
  | _=>none) none
def zet (P:Program) (G:Nat) (H:AH) (t:TypeId) (x:Value):Option (Value × AH) :=
 match x with
 | .slice none 0 0=>cond (match Q2 P t with | some (none,_)=>true | _=>false) (some (.tuple #[],H)) none
 | .slice (some ⟨b,o,none⟩) n _=>match Q2 P t with
  | some (none,e)=>match P.info? e with
   | some i=>match i.zero,H.get b with
    | some z,some (.cells nn tr ty op fz)=>cond (Nat.ble G b && zq b && zq nn && Nat.blt 0 n && Nat.ble (o + (Builtin.zeroCells z.cells n).toList.length) nn && (Builtin.zeroCells z.cells n).toList.all (·.oneCell') && (Builtin.zeroCells z.cells n).toList.all flat && Nat.ble fz.2 o)
      (some (.tuple #[],H.set b (.cells nn (tr.setRow o (Builtin.zeroCells z.cells n).toList) ty op fz))) none
    | _,_=>none
   | none=>none
  | _=>none
 | _=>none
def zky (P:Program) (t:TypeId) (s x:Value):Option Value :=
 match s,x with
 | .slice (some ⟨_,_,none⟩) _ _,.slice none 0 0=>(match Q2 P t with
  | some (none,e)=>cond (P.info? e).isSome (some (.int .i64 0)) none
  | _=>none)
 | _,_=>none
def evalX (P:Program) (F:T Func) (G:Nat) (H:AH) (ρ:Ev) (o:Oper):XR :=
 match o.op with
 | .convert s d x=>zms (zjk P G H s d (ρ x))
 | .store t a x=>zqe (zeH P G H t (ρ a) (ρ x))
 | .mapUpdate t m k v | .insert t m k v=>zqe (zaZ P G H t (ρ m) (ρ k) (ρ v))
 | .mapEntry t m k=>zms (Qo P G H t (ρ m) (ρ k))
 | .entryStore _ m s x=>zqe (Yf G H (ρ m) (ρ s) (ρ x))
 | .next it s=>.vals (zhp G H (ρ it) s)
 | .entry it=>zxA H (zkQ H (ρ it))
 | .call { callee:=.builtin .append,args,argTypes }=>match args.toList,argTypes.toList with
  | [s,x],[t,u]=>(match zgl P G H t u (ρ s) (ρ x) with
   | some y=>.vals [y]
   | none=>zms (zcd P H t u (ρ s) (ρ x)))
  | _,_=>.vals []
 | .call { callee:=.builtin .copy,args,argTypes }=>match args.toList,argTypes.toList with
  | [s,x],[t,_]=>zxA H (zky P t (ρ s) (ρ x))
  | _,_=>.vals []
 | .call { callee:=.builtin .clear,args,argTypes }=>match args.toList,argTypes.toList with
  | [x],[t]=>zms (zet P G H t (ρ x))
  | _,_=>.vals []
 | .call { callee:=.builtin .unsafeString,args,argTypes }=>match args.toList,argTypes.toList with
  | [p,l],[t,_]=>zms (zju P G H t (ρ p) (ρ l))
  | _,_=>.vals []
 | .call { callee:=.builtin .delete,args,argTypes }=>match args.toList,argTypes.toList with
  | [m,k],[t,_]=>zqe (zck P G H t (ρ m) (ρ k))
  | _,_=>.vals []
 | .call { callee:=.value f,args,argTypes:=_ }=>match ρ f with
  | .func (.func g) first captured=>zwD (zfj P H F g (first.toList++args.toList.map ρ++captured.toList)) (zmr P H g (first.toList++args.toList.map ρ++captured.toList))
  | .func (.yield l) first _=>.round l (first.toList++args.toList.map ρ)
  | _=>.vals []
 | .call { callee:=.invoke r name,args,argTypes:=_ }=>match ρ r with
  | .iface t v=>match zkv P H t v name with
   | some (f,recv)=>zfj P H F f (recv :: args.toList.map ρ)
   | none=>.vals []
  | _=>.vals []
 | _=>.vals []
def zbK (P:Program) (F:T Func) (G:Nat) (H:AH) (ρ:Ev) (o:Oper):XR :=
 match zdO P H ρ o with
 | some v=>.vals [(v,H)]
 | none=>match zdP P H ρ o with
  | some (ob,mk)=>cond (zq H.nx) (.vals [(mk H.nx,H.push ob)]) (.vals [])
  | none=>evalX P F G H ρ o
structure Dr where
 ops:Array Oper
 left:List Nat
 al:List (Nat × Nat)
 cur:Option Nat
inductive DfA where
 | coll (b:Nat)
 | clo (f:FuncId) (args cap:List Value)
structure AFr where
 fn:FuncId
 nt:Nat
 tm:T Value
 todo:List Item
 dr:Option Dr
 defers:List DfA
 ret:Bool
 rnd:Option Nat
 lo:Nat
 dfd:Bool:=false
structure Cfg where
 fr:AFr
 cs:List AFr
 H:AH
inductive Out where
 | go (l:List Cfg)
 | done (v:Value) (H:AH)
def putA (tm:T Value) (d:Option Nat) (v:Value):T Value :=
 match d with
 | some d=>tm.set d v
 | none=>tm
def Y4 (nt:Nat) (o:Oper):Bool:=match o.dst with
 | some d=>Nat.blt d nt && zq d
 | none=>true
def qh (ops:Array Oper) (tm:T Value) (j:Nat):Option Bool :=
 match (ops[j]?).bind (·.dst) with
 | some d=>match ZB tm d with
  | .bool b=>some b
  | _=>none
 | none=>none
def ancB (ops:Array Oper):Nat->Nat->Nat->Bool
 | 0,_,_=>false
 | fuel + 1,j,i=>match ops[j]? with
  | some o=>o.after.toList.any fun e=>Region.binds .any e && (e.on == i || ancB ops fuel e.on i)
  | none=>false
def anc (ops:Array Oper) (j i:Nat):Bool:=ancB ops ops.size j i
theorem zeu {ops:Array Oper}:∀ {n m:Nat},n <= m->∀ {j i:Nat},ancB ops n j i = true->ancB ops m j i = true
 | 0,_,_,j,i,h=>by simp [ancB] at h
 | n + 1,0,hm,_,_,_=>absurd hm (by omega)
 | n + 1,m + 1,hm,j,i,h=>by
  unfold ancB at h ⊢
  split at h
  ·rw [List.any_eq_true] at h ⊢
   obtain ⟨e,he,h2⟩:=h
   refine ⟨e,he,?_⟩
   simp only [zyL,Bool.or_eq_true] at h2 ⊢
   exact ⟨h2.1,h2.2.imp id fun q=>zeu (by omega) q⟩
  ·cases h
def zsW (ms:T Nat) (i:Nat) (m:Nat) (e:Edge):Nat:=cond (Region.binds .any e && Nat.blt e.on i) ((m ||| (1 <<< e.on)) ||| (ms.get e.on).getD 0) m
def zsX (ops:Array Oper) (ms:T Nat) (i:Nat):T Nat:=match ops[i]? with
 | some o=>cond (zq i) (ms.set i (o.after.toList.foldl (zsW ms i) 0)) ms
 | none=>ms
def zsY (ops:Array Oper):T Nat:=(List.range ops.size).foldl (zsX ops) .nil
def zg2 (ms:T Nat) (j i:Nat):Bool:=Nat.testBit ((ms.get j).getD 0) i
theorem zg3 {ms:T Nat} {i k:Nat}:∀ (es:List Edge) (m:Nat),Nat.testBit (es.foldl (zsW ms i) m) k = true->Nat.testBit m k = true ∨ ∃ e ∈ es,Region.binds .any e = true/\e.on < i/\(e.on = k ∨ zg2 ms e.on k = true)
 | [],m,h=>.inl h
 | e :: es,m,h=>by
  rcases zg3 es _ h with h | ⟨e',he,q⟩
  ·unfold zsW at h
   cases hc:(Region.binds .any e && Nat.blt e.on i) with
   | false=>rw [hc] at h; exact .inl h
   | true =>
    rw [hc] at h
    simp only [cond_true,Nat.testBit_or,Bool.or_eq_true] at h
    simp only [zyL] at hc
    have hlt:e.on < i:=by simpa using hc.2
    rcases h with (h | h) | h
    ·exact .inl h
    ·rw [Nat.shiftLeft_eq,Nat.one_mul,Nat.testBit_two_pow] at h
     exact .inr ⟨e,by simp,hc.1,hlt,.inl (by simpa using h)⟩
    ·exact .inr ⟨e,by simp,hc.1,hlt,.inr h⟩
  ·exact .inr ⟨e',by simp [he],q⟩
theorem zg4 {ops:Array Oper}:∀ (l:List Nat) (ms:T Nat),(∀ j k,zg2 ms j k = true->ancB ops (j + 1) j k = true)->∀ j k,zg2 (l.foldl (zsX ops) ms) j k = true->ancB ops (j + 1) j k = true
 | [],_,h=>h
 | i :: l,ms,h=>zg4 l _ fun j k hb=>by
  unfold zsX at hb
  split at hb
  ·rename_i o ho
   cases hs:zq i with
   | false=>rw [hs] at hb; exact h j k hb
   | true =>
    rw [hs] at hb
    simp only [cond_true] at hb
    by_cases e:j = i
    ·subst e
     unfold zg2 at hb
     rw [T.get_set hs,if_pos rfl] at hb
     rcases zg3 _ _ hb with q | ⟨e,he,h1,h2,h3⟩
     ·simp at q
     ·unfold ancB
      rw [ho]
      rw [List.any_eq_true]
      refine ⟨e,he,?_⟩
      simp only [zyL,Bool.or_eq_true,beq_iff_eq]
      exact ⟨h1,h3.imp id fun q=>zeu (by omega) (h _ _ q)⟩
    ·unfold zg2 at hb
     rw [T.get_set hs,if_neg e] at hb
     exact h j k hb
  ·exact h j k hb
theorem zce {ops:Array Oper} {j i:Nat} (h:zg2 (zsY ops) j i = true):anc ops j i = true:=by
 have h1:=zg4 _ _ (fun j k hb=>by simp [zg2,T.get_nil] at hb) j i h
 have hj:j < ops.size:=by
  unfold ancB at h1
  split at h1
  ·rename_i o ho; exact (Array.getElem?_eq_some_iff.1 ho).1
  ·cases h1
 exact zeu (by omega) h1
def QF (o:Oper) (left:List Nat):Bool:=o.after.toList.all fun e=>!Region.binds .any e || !left.contains e.on
def looks (ops:Array Oper) (o:Oper):List Nat :=
 (o.op.operands.toList.filterMap fun | .tmp t=>some t | _=>none)++(match o.guard with
  | some (g,_)=>((ops[g]?).bind (·.dst)).toList
  | none=>[])
def zkz (ops:Array Oper) (o:Oper):Bool:=match o.op with
 | .assign _=>(match o.dst with
  | some d=>ops.toList.any fun o'=>(looks ops o').contains d
  | none=>false)
 | _=>false
def zsZ (G nt:Nat) (ops:Array Oper) (an:Nat->Nat->Bool):Bool :=
 (List.range ops.size).all fun i=>match ops[i]? with
  | some o=>zfi G o && Y4 nt o && (match o.op with | .defer _=>false | _=>true) && o.after.toList.all (fun e=>!Region.binds .any e || Nat.blt e.on i) &&
   (List.range ops.size).all fun j=>match ops[j]? with
    | some o'=>match o'.dst with
     | some d=>(i == j || !(o.dst == some d)) && (!(looks ops o).contains d || (!(i == j) && (an i j || (zkz ops o' && an j i))))
     | none=>true
    | none=>true
  | none=>true
def zmt (G nt:Nat) (ops:Array Oper):Bool :=
 match zsY ops with
 | ms=>zsZ G nt ops (zg2 ms)
inductive Kind where
 | skip
 | val (v:Value)
 | lay (ob:AObj) (mk:Nat->Value)
 | eff
def qZ (P:Program) (H:AH) (ops:Array Oper) (tm:T Value) (o:Oper):Kind :=
 cond (zkz ops o) .eff (cond (Region.wanted o (qh ops tm)) (match zdO P H (aev tm) o with
  | some v=>.val v
  | none=>match zdP P H (aev tm) o with
   | some (ob,mk)=>.lay ob mk
   | none=>.eff) .skip)
def zs0 (t t':T Value) (n:Nat):Bool:=match t.row 0 n,t'.row 0 n with
 | some a,some b=>zbN veq a b
 | _,_=>false
def oeq:AObj->AObj->Bool
 | .cells n t ty op fz,.cells n' t' ty' op' fz'=>Nat.beq n n' && Nat.beq ty ty' && (match op,op' with | none,none=>true | some a,some b=>Nat.beq a b | _,_=>false) && Nat.beq fz.1 fz'.1 && Nat.beq fz.2 fz'.2 && zs0 t t' n
 | .map [] c,.map [] c'=>Nat.beq c c'
 | _,_=>false
def zdA (P:Program) (H:AH) (ops:Array Oper) (tm:T Value) (al:List (Nat × Nat)) (p:Nat):Bool :=
 match ops[p]? with
 | none=>true
 | some o=>match qZ P H ops tm o with
  | .skip=>(match o.dst with | some d=>veq (ZB tm d) undef | none=>true)
  | .val v=>(match o.dst with | some d=>veq (ZB tm d) v | none=>true)
  | .lay ob mk=>(match al.lookup p with
   | some b=>(match H.get b with | some ob'=>oeq ob' ob | none=>false) && (match o.dst with | some d=>veq (ZB tm d) (mk b) | none=>true)
   | none=>false)
  | .eff=>false
def zvn (P:Program) (H:AH) (ops:Array Oper) (tm:T Value) (p:Nat):Bool :=
 match ops[p]? with
 | none=>false
 | some o=>match qZ P H ops tm o with
  | .eff=>true
  | _=>false
def zcf (P:Program) (H:AH) (tm:T Value) (d:Dr) (x:Nat):Bool :=
 match zsY d.ops with
 | ms=>(List.range d.ops.size).all fun p=>d.left.contains p || p == x || zg2 ms x p || zdA P H d.ops tm d.al p
def Za (P:Program) (H:AH) (tm:T Value) (ops:Array Oper) (all:List Nat):List Nat->Option (Nat × Oper × Kind)
 | []=>none
 | i :: rest=>match ops[i]? with
  | none=>Za P H tm ops all rest
  | some o=>cond (QF o all) (match qZ P H ops tm o with
   | .eff=>Za P H tm ops all rest
   | k=>some (i,o,k)) (Za P H tm ops all rest)
def Z8 (ops:Array Oper) (all:List Nat):List Nat->Option (Nat × Oper)
 | []=>none
 | i :: rest=>match ops[i]? with
  | none=>Z8 ops all rest
  | some o=>cond (QF o all) (some (i,o)) (Z8 ops all rest)
def zbL (F:T Func) (c:AFr) (cs:List AFr) (H:AH) (f:FuncId) (args:List Value):List Cfg :=
 match F.get f with
 | some fn=>match fn.body with
  | some body=>[⟨{ fn:=f,nt:=fn.ntmps,tm:=T.setRow .nil 0 args,todo:=[.code body],dr:=none,defers:=[],ret:=false,rnd:=none,lo:=H.nx },c :: cs,H⟩]
  | none=>[]
 | none=>[]
def zev (c:AFr) (cs:List AFr) (H:AH) (l:Nat) (args:List Value):List Cfg :=
 match H.get l with
 | some (.loop _ _ fn nt tm params assign body _)=>cond (Nat.beq args.length params.size && params.toList.all (fun t=>Nat.blt t nt && zq t))
  [⟨{ fn:=fn,nt:=nt,tm:=(params.toList.zip args).foldl (fun tm x=>tm.set x.1 x.2) tm,todo:=[.code assign,.beginRound,.code body],dr:=none,defers:=[],ret:=false,rnd:=some l,lo:=H.nx },c :: cs,H⟩] []
 | _=>[]
def Q0 (P:Program) (c:AFr) (cs:List AFr) (H:AH) (v:Value):List Cfg :=
 match c.dr with
 | some d=>match d.cur with
  | some x=>match d.ops[x]? with
   | some o =>
    let tm:=putA c.tm o.dst v
    let d':Dr:={ d with left:=d.left.erase x,cur:=none }
    cond (Y4 c.nt o && zcf P H tm d' x) [⟨{ c with tm:=tm,dr:=some d' },cs,H⟩] []
   | none=>[]
  | none=>[]
 | none=>match c.todo with
  | .inRegion ops (i :: rest) :: k=>match ops[i]? with
   | some o=>cond (Y4 c.nt o) [⟨{ c with tm:=putA c.tm o.dst v,todo:=.inRegion ops rest :: k },cs,H⟩] []
   | none=>[]
  | .inRangeFunc l :: k=>[⟨{ c with todo:=.endRangeFunc l :: k },cs,H⟩]
  | _=>[]
def zgj (P:Program) (H:AH) (tm:T Value):ResultVar->Option Value
 | .tmp t=>some (ZB tm t)
 | .cell a t=>zmL P H t (ZB tm a)
def zav (P:Program) (H:AH) (tm:T Value):List ResultVar->Option (List Value)
 | []=>some []
 | r :: rs=>match zgj P H tm r,zav P H tm rs with
  | some v,some vs=>some (v :: vs)
  | _,_=>none
def zvo (P:Program) (H:AH) (tm:T Value) (rs:List ResultVar):Option Value :=
 match zav P H tm rs with
 | some [v]=>some v
 | some vs=>some (.tuple vs.toArray)
 | none=>none
def Zv (P:Program) (G:Nat) (c:Cfg) (l:Nat) (jump:Option Code):List Cfg :=
 match c.cs with
 | k :: cs=>match c.H.get l with
  | some (.loop _ _ fn nt tm params assign body d)=>cond (Nat.ble G l && zq l && !k.ret && !c.fr.dfd)
   (Q0 P k cs (c.H.set l (.loop (match jump with | none=>.ready | some _=>.done) jump fn nt tm params assign body d)) (.bool (match jump with | none=>true | some _=>false))) []
  | _=>[]
 | []=>[]
def zgk (F:T Func) (c:AFr) (cs:List AFr) (H:AH) (f:FuncId) (args:List Value):List Cfg :=
 match F.get f with
 | some fn=>cond (Nat.ble args.length fn.ntmps && zq fn.ntmps) (zbL F c cs H f args) []
 | none=>[]
def zaP (F:T Func) (c:Cfg) (g:Operand) (ps:Array Tmp) (assign body:Code) (k:List Item):List Cfg :=
 cond (match g with | .tmp _=>true | .func _=>true | _=>false) (match aev c.fr.tm g with
 | .func (.func f) first captured =>
  match c.fr.rnd with
  | none=>cond (zq c.H.nx && zq (c.H.nx + 1))
    (zgk F { c.fr with todo:=.inRangeFunc (c.H.nx + 1) :: k,defers:=.coll c.H.nx :: c.fr.defers } c.cs ((c.H.push (.dfr true)).push (.loop .ready none c.fr.fn c.fr.nt c.fr.tm ps assign body c.H.nx)) f (first.toList++[.func (.yield (c.H.nx + 1)) #[] #[]]++captured.toList)) []
  | some lr=>match c.H.get lr with
   | some (.loop _ _ _ _ _ _ _ _ d)=>cond (zq c.H.nx)
    (zgk F { c.fr with todo:=.inRangeFunc c.H.nx :: k } c.cs (c.H.push (.loop .ready none c.fr.fn c.fr.nt c.fr.tm ps assign body d)) f (first.toList++[.func (.yield c.H.nx) #[] #[]]++captured.toList)) []
   | _=>[]
 | _=>[]) []
def zs1 (pend:Option Code) (k:List Item):List Item :=
 match pend with
 | some j=>.code j :: k
 | none=>k
def zs2 (o:Oper):Bool:=match o.op with
 | .defer _=>true
 | .call { callee:=.builtin .recover,args:=_,argTypes:=_ }=>true
 | _=>false
def zs3 (c:Cfg):Bool:=match c.fr.dfd with
 | false=>true
 | true=>(match c.cs with
  | k :: _=>k.ret
  | []=>false)
def zkA (G:Nat) (c:Cfg) (o:Oper) (ops:Array Oper) (rest:List Nat) (k:List Item):Out :=
 cond (Y4 c.fr.nt o && zfi G o && Region.wanted o (qh ops c.fr.tm)) (match c.fr.rnd with
  | some _=>.go []
  | none=>(match o.op with
   | .defer cl=>(match cl.callee with
    | .value f=>(match aev c.fr.tm f with
     | .func (.func g) first captured=>.go [⟨{ c.fr with tm:=putA c.fr.tm o.dst undef,todo:=.inRegion ops rest :: k,defers:=.clo g (first.toList++cl.args.toList.map (aev c.fr.tm)) captured.toList :: c.fr.defers },c.cs,c.H⟩]
     | _=>.go [])
    | _=>.go [])
   | .call { callee:=.builtin .recover,args:=_,argTypes:=_ }=>cond (zs3 c) (.go [⟨{ c.fr with tm:=putA c.fr.tm o.dst .nilIface,todo:=.inRegion ops rest :: k },c.cs,c.H⟩]) (.go [])
   | _=>.go [])) (.go [])
def zoy (F:T Func) (c:AFr) (cs:List AFr) (H:AH) (f:FuncId) (args:List Value):List Cfg :=
 match F.get f with
 | some fn=>cond (Nat.ble args.length fn.ntmps && zq fn.ntmps) (match fn.body with
  | some body=>[⟨{ fn:=f,nt:=fn.ntmps,tm:=T.setRow .nil 0 args,todo:=[.code body],dr:=none,defers:=[],ret:=false,rnd:=none,lo:=H.nx,dfd:=true },c :: cs,H⟩]
  | none=>[]) []
 | none=>[]
def zq9 (P:Program) (F:T Func) (G:Nat) (c:Cfg):Out :=
 let fr:=c.fr
 let one (fr:AFr):Out:=.go [⟨fr,c.cs,c.H⟩]
 let to (todo:List Item):Out:=one { fr with todo:=todo }
 match fr.dr with
  | some d=>match d.left with
   | []=>one { fr with dr:=none }
   | _=>match Za P c.H fr.tm d.ops d.left d.left with
    | some (i,o,.skip)=>one { fr with tm:=putA fr.tm o.dst undef,dr:=some { d with left:=d.left.erase i } }
    | some (i,o,.val v)=>one { fr with tm:=putA fr.tm o.dst v,dr:=some { d with left:=d.left.erase i } }
    | some (i,o,.lay ob mk)=>cond (zq c.H.nx && (List.range d.ops.size).all fun p=>(d.left.erase i).contains p || (!(p == i) && zvn P c.H d.ops fr.tm p) || zdA P (c.H.push ob) d.ops (putA fr.tm o.dst (mk c.H.nx)) ((i,c.H.nx) :: d.al) p) (.go [⟨{ fr with tm:=putA fr.tm o.dst (mk c.H.nx),dr:=some { d with left:=d.left.erase i,al:=(i,c.H.nx) :: d.al } },c.cs,c.H.push ob⟩]) (.go [])
    | some (_,_,.eff)=>.go []
    | none=>match Z8 d.ops d.left d.left with
     | none=>.go []
     | some (x,o)=>cond (match zsY d.ops with | ms=>d.left.all fun j=>j == x || zg2 ms j x)
      (cond (Region.wanted o (qh d.ops fr.tm)) (match zbK P F G c.H (aev fr.tm) o with
           | .vals l=>cond (l.all fun y=>zcf P y.2 (putA fr.tm o.dst y.1) { d with left:=d.left.erase x } x)
              (.go (l.map fun y=>⟨{ fr with tm:=putA fr.tm o.dst y.1,dr:=some { d with left:=d.left.erase x } },c.cs,y.2⟩)) (.go [])
           | .call f args=>.go (zbL F { fr with dr:=some { d with cur:=some x } } c.cs c.H f args)
           | .round l args=>.go (zev { fr with dr:=some { d with cur:=some x } } c.cs c.H l args)) (.go [])) (.go [])
  | none=>match fr.todo with
   | []=>(match fr.rnd with
    | none=>one { fr with ret:=true }
    | some l=>.go (Zv P G c l none))
   | .code .ret :: _=>(match fr.rnd with
    | none=>one { fr with ret:=true }
    | some l=>.go (Zv P G c l (some .ret)))
   | .code (.rangeFunc g ps assign body) :: k=>.go (zaP F c g ps assign body k)
   | .endRangeFunc l :: k=>(match c.H.get l with
    | some (.loop st pend fn nt tm params assign body d)=>(match st with
     | .busy=>.go []
     | _=>cond (Nat.ble G l && zq l) (.go [⟨{ fr with todo:=zs1 pend k },c.cs,c.H.set l (.loop .exhausted pend fn nt tm params assign body d)⟩]) (.go []))
    | _=>.go [])
   | .beginRound :: k=>(match fr.rnd with
    | some l=>(match c.H.get l with
     | some (.loop .ready pend fn nt tm params assign body d)=>cond (Nat.ble G l && zq l) (.go [⟨{ fr with todo:=k },c.cs,c.H.set l (.loop .busy pend fn nt tm params assign body d)⟩]) (.go [])
     | _=>.go [])
    | none=>.go [])
   | .code .skip :: k | .code (.label _) :: k | .inBlock _ :: k | .inScope _ :: k=>to k
   | .code (.seq a b) :: k=>to (.code a :: .code b :: k)
   | .code (.cond x a b) :: k=>(match aev fr.tm x with
    | .bool t=>cond (match x with | .tmp _=>true | .const _=>true | _=>false) (to (.code (cond t a b) :: k)) (.go [])
    | _=>.go [])
   | .code (.block id b) :: k=>to (.code b :: .inBlock id :: k)
   | .code (.loop b) :: k | .inLoop b :: k=>to (.code b :: .inLoop b :: k)
   | .code (.scope b) :: k=>to (.code b :: .inScope b :: k)
   | .code (.exit id) :: k=>(match exitTo id k with
    | some k'=>to k'
    | none=>(match fr.rnd with
     | some l=>.go (Zv P G c l (some (.exit id)))
     | none=>.go []))
   | .code (.goto l) :: k=>(match gotoIn l k with
    | some k'=>to k'
    | none=>.go [])
   | .code (.region _ ops false) :: k=>to (.inRegion ops (List.range ops.size) :: k)
   | .code (.region _ ops true) :: k=>cond (zmt G fr.nt ops) (one { fr with todo:=k,dr:=some { ops:=ops,left:=List.range ops.size,al:=[],cur:=none } }) (.go [])
   | .inRegion _ [] :: k=>to k
   | .inRegion ops (i :: rest) :: k=>(match ops[i]? with
    | none=>.go []
    | some o=>cond (zs2 o) (zkA G c o ops rest k) <| cond (Y4 fr.nt o && zfi G o && (match o.op with | .defer _=>false | _=>true))
     (cond (Region.wanted o (qh ops fr.tm))
      (match zbK P F G c.H (aev fr.tm) o with
            | .vals l=>.go (l.map fun y=>⟨{ fr with tm:=putA fr.tm o.dst y.1,todo:=.inRegion ops rest :: k },c.cs,y.2⟩)
            | .call f args=>.go (zbL F fr c.cs c.H f args)
            | .round l args=>.go (zev fr c.cs c.H l args))
      (one { fr with tm:=putA fr.tm o.dst undef,todo:=.inRegion ops rest :: k })) (.go []))
   | _=>.go []
def zxB:Out->List Cfg
 | .go l=>l
 | .done _ _=>[]
def zaw (P:Program) (F:T Func) (G:Nat) (c:Cfg):Out :=
 let fr:=c.fr
 match fr.ret with
 | true=>match fr.defers with
  | .coll b :: ds=>match c.H.get b with
   | some (.dfr true)=>cond (Nat.ble G b && zq b) (.go [⟨{ fr with defers:=ds },c.cs,c.H.set b (.dfr false)⟩]) (.go [])
   | _=>.go []
  | .clo f args cap :: ds=>.go (zoy F { fr with defers:=ds } c.cs c.H f (args++cap))
  | []=>match F.get fr.fn with
   | some fn=>match zvo P c.H fr.tm fn.results.toList with
    | some v=>match c.cs with
     | []=>cond fr.dfd (.go []) (.done v c.H)
     | k :: cs=>cond fr.dfd (cond k.ret (.go [⟨k,cs,c.H⟩]) (.go [])) (cond k.ret (.go []) (.go (Q0 P k cs c.H v)))
    | none=>.go []
   | none=>.go []
 | false=>.go (zxB (zq9 P F G c))
theorem zqf {P:Program} {F:T Func} {G:Nat} {c:Cfg} {l:List Cfg} (hret:c.fr.ret = false) (h:zaw P F G c = .go l) (hne:l ≠ []):zq9 P F G c = .go l:=by
 unfold zaw at h
 simp only [hret,Out.go.injEq] at h
 cases ha:zq9 P F G c with
 | go l'=>rw [ha] at h; rw [<- h]; rfl
 | done v H=>rw [ha] at h; exact absurd h.symm hne
def zoz (P:Program) (F:T Func) (G:Nat) (test:Value->AH->Bool):Nat->Cfg->Bool
 | 0,_=>false
 | n + 1,c=>match zaw P F G c with
  | .done v H=>test v H
  | .go l=>!l.isEmpty && l.all (zoz P F G test n)
end Go.Run
noncomputable section
namespace Go.Run
open Go.RowKit
section
variable {P:Program} {w0:World} {G:Nat} {L:Lam} {H:AH} {w:World}
theorem zkB {f:FuncId} {args args':List Value} (ha:args.all flat = true) (hr:LR L args args') {v:Value} (h:yu P (zkw f args.toArray) = some v) (w:World):(callFunc f args'.toArray).run P w = .ok (.value v) w:=by
 have e:args' = args:=by
  apply List.ext_getElem hr.1.symm
  intro i h1 h2
  have:=hr.2 i _ _ (List.getElem?_eq_getElem h2) (List.getElem?_eq_getElem h1)
  exact this.eq_flat (List.all_eq_true.1 ha _ (List.getElem_mem h2))
 subst e
 have h1:=qd _ h w
 unfold zkw at h1
 rw [Sem.run_bind] at h1
 cases hc:(callFunc f args'.toArray).run P w with
 | halt o w'=>rw [hc] at h1; cases h1
 | ok n w' =>
  rw [hc] at h1
  simp only [Result.andThen_ok] at h1
  cases n with
  | value u =>
   simp only [Sem.run_pure] at h1
   cases h1; rfl
  | _=>cases h1
theorem zmu {f:FuncId} (h:zg1 P f = true) (x:Value) (w:World):(callFunc f #[x]).run P w = .ok (.value x) w:=by
 unfold zg1 at h
 split at h
 ·rename_i fn hf
  simp only [zyL,Option.isNone_iff_eq_none,beq_iff_eq] at h
  obtain ⟨⟨h1,h2⟩,h3⟩:=h
  have e1:Extern.findNext fn = none:=by
   unfold Extern.findNext
   rw [h2,h3]
   have q1 : Extern.allNextRows.lookup "internal/abi.NoEscape" = none := by
    have : (Extern.allNextRows.lookup "internal/abi.NoEscape").isNone = true := by kernel_rfl
    simpa using this
   have q2 : Extern.allNextRows.lookup "" = none := by
    have : (Extern.allNextRows.lookup "").isNone = true := by kernel_rfl
    simpa using this
   simp only [q1,q2]
   rfl
  have e2:Extern.find fn = some Extern.AbiNoEscape.same:=by
   unfold Extern.find
   rw [h2,h3]
   have q1 : Extern.allGenericRows.lookup "internal/abi.NoEscape" = none := by
    have : (Extern.allGenericRows.lookup "internal/abi.NoEscape").isNone = true := by kernel_rfl
    simpa using this
   have q2 : Extern.allTypedRows.lookup "internal/abi.NoEscape" = none := by
    have : (Extern.allTypedRows.lookup "internal/abi.NoEscape").isNone = true := by kernel_rfl
    simpa using this
   have q3 : Extern.allRows.lookup "internal/abi.NoEscape" = some Extern.AbiNoEscape.same := by kernel_rfl
   simp only [q1,q2,q3]
   rfl
  have e3 : (fn.name == "runtime.NumGoroutine") = false := by rw [h2]; decide
  have e4:∀ (u:Mark) (w:World),(mark u).run P w = .ok () w:=fun _ _=>rfl
  have e5:Extern.AbiNoEscape.same #[x] = pure x:=rfl
  have e6:program.run P w = .ok P w:=rfl
  simp only [callFunc,Sem.run_bind,e6,Result.andThen_ok,hf,e3,h1,Option.isNone_none,Bool.false_eq_true,if_false,if_true,e4,e1,e2,e5,Sem.run_pure]
 ·cases h
theorem zmv {t u ty:TypeId} {s x s' x' v:Value} (hr:zky P t s x = some v) (hs:VR L s s') (hx:VR L x x'):(Builtin.copy_ #[t,u] ty #[s',x']).run P w = .ok v w/\VR L v v:=by
 unfold zky at hr
 split at hr
 ·rename_i b o n c
  split at hr
  ·rename_i e he
   obtain ⟨c0,hr⟩:=cc hr
   cases hr
   cases hx
   cases hs with
   | slice hp =>
    have hi:((P.info? e).map (·.size)).isSome = true:=by
     cases hq:P.info? e with
     | none=>rw [hq] at c0; cases c0
     | some i=>rfl
    exact ⟨run_copy_nil P w t u ty e _ _ _ (qS he) hi,.int _ _⟩
  ·cases hr
 ·cases hr
theorem zoA {r q:XR} {m:Option (Value × AH)} (h:zwD r m = q):r = q ∨ ∃ x,m = some x/\q = .vals [x]:=by
 unfold zwD at h
 split at h
 ·exact .inr ⟨_,rfl,h.symm⟩
 ·exact .inl h
theorem zoB {f:FuncId} {e:TypeId} (h:zsV P f = some e) (args:Array Value):∃ ps t,P.underlying t = some (.slice e) /\
  ∀ {y:Value} {w':World},(Extern.BytealgMakeNoZero.makeNoZero ps #[t] args).run P w = .ok y w'->(callFunc f args).run P w = .ok (.value y) w':=by
 unfold zsV at h
 split at h
 ·rename_i fn hf
  obtain ⟨c0,h⟩:=cc h
  simp only [zyL,Option.isNone_iff_eq_none,beq_iff_eq] at c0
  obtain ⟨⟨⟨h1,h2⟩,h3⟩,h4⟩:=c0
  have h4:fn.resultTypes.size = 1:=zyM h4
  split at h
  ·rename_i t ht
   split at h
   ·rename_i e' hu
    cases h
    have hres:fn.resultTypes = #[t]:=by
     apply Array.ext'
     cases hrt:fn.resultTypes with
     | mk l =>
      rw [hrt] at h4 ht
      cases l with
      | nil=>cases h4
      | cons a r =>
       cases r with
       | nil=>simp at ht; rw [ht]
       | cons b r=>simp at h4
    refine ⟨fn.params,t,hu,fun {y w'} hrun=>?_⟩
    have e1:Extern.findNext fn = none:=by
     unfold Extern.findNext
     rw [h2,h3]
     have q1 : Extern.allNextRows.lookup "internal/bytealg.MakeNoZero" = none := by
      have : (Extern.allNextRows.lookup "internal/bytealg.MakeNoZero").isNone = true := by kernel_rfl
      simpa using this
     have q2 : Extern.allNextRows.lookup "" = none := by
      have : (Extern.allNextRows.lookup "").isNone = true := by kernel_rfl
      simpa using this
     simp only [q1,q2]
     rfl
    have e2:Extern.find fn = some (Extern.BytealgMakeNoZero.makeNoZero fn.params #[t]):=by
     unfold Extern.find
     rw [h2,h3,hres]
     have q1 : Extern.allGenericRows.lookup "internal/bytealg.MakeNoZero" = none := by
      have : (Extern.allGenericRows.lookup "internal/bytealg.MakeNoZero").isNone = true := by kernel_rfl
      simpa using this
     have q2 : Extern.allTypedRows.lookup "internal/bytealg.MakeNoZero" = some Extern.BytealgMakeNoZero.makeNoZero := by kernel_rfl
     simp only [q1,q2]
     rfl
    have e3 : (fn.name == "runtime.NumGoroutine") = false := by rw [h2]; decide
    have e4:∀ (u:Mark) (w:World),(mark u).run P w = .ok () w:=fun _ _=>rfl
    have e6:program.run P w = .ok P w:=rfl
    simp only [callFunc,Sem.run_bind,e6,Result.andThen_ok,hf,e3,h1,Option.isNone_none,Bool.false_eq_true,if_false,if_true,e4,e1,e2,hrun,Sem.run_pure]
   ·cases h
  ·cases h
 ·cases h
theorem zs4 {f:FuncId} {args:List Value} {v:Value} {H':AH} (h:zmr P H f args = some (v,H')):H.nx <= H'.nx:=by
 unfold zmr at h
 split at h
 ·split at h
  ·have:=(cc h).2; cases this; exact Nat.le_succ _
  ·cases h
 ·cases h
theorem zoC (h:zH w0 G L H w) {f:FuncId} {args args':List Value} {v:Value} {H':AH} (hr:zmr P H f args = some (v,H')) (hl:LR L args args') :
  ∃ y w' L',(callFunc f args'.toArray).run P w = .ok (.value y) w'/\Lam.ext H.nx L L'/\zH w0 G L' H' w'/\VR L' v y:=by
 unfold zmr at hr
 split at hr
 ·rename_i n
  split at hr
  ·rename_i e he
   obtain ⟨c0,hr⟩:=cc hr
   simp only [zyL] at c0
   obtain ⟨⟨c1,c2⟩,c3⟩:=c0
   simp only [zyO,Prod.mk.injEq] at hr
   obtain ⟨rfl,rfl⟩:=hr
   cases n with
   | negSucc q=>cases c1
   | ofNat m =>
    obtain ⟨x,xs,rfl,hx,hxs⟩:=hl.cons_inv
    have:=hxs.nil_inv; subst this
    have hx:x = .int .i64 (m:Int):=hx.eq_flat rfl
    subst hx
    obtain ⟨ps,t,hu,hcall⟩:=zoB (w:=w) he #[.int .i64 (m:Int)]
    obtain ⟨cs,hrun,hge,_⟩:=Go.Lib.run_makeNoZero (P:=P) w ps t e hu m (by simpa using ble c2)
    have hlaid:Laid L w (w.drew.drew.alloc (.cells cs e)) (.cells 0 .nil e (some 1) (0,0)) (fun b=>.slice (some ⟨b,0,none⟩) m 1) (.slice (some ⟨w.heap.size,0,none⟩) m cs.size):=by
     refine ⟨⟨by simp [World.alloc,World.drew,-World.alloc_eq,-World.drew_eq],fun k hk=>?_,rfl,rfl,rfl⟩,cs.size,fun L' b hl' hb=>⟨?_,?_⟩⟩
     ·simp only [World.alloc,World.drew]; rw [Array.getElem?_push_lt hk,zyK hk]
     ·refine ⟨cs,(0,0),by simp [World.alloc,World.drew,-World.alloc_eq,-World.drew_eq],.inl ⟨rfl,rfl⟩,?_,fun i hi=>by omega⟩
      show cs.size = 0 + 0 + cs.size * 1
      omega
     ·have:=VR.slice (o:=0) (len:=m) (cap:=2 * 0 + 1) hb
      rw [zbM] at this
      simpa using this
    obtain ⟨L',l1,l2,l3⟩:=h.laid hlaid c3
    exact ⟨_,_,L',hcall hrun,l1,l2,l3⟩
  ·cases hr
 ·cases hr
theorem zs5 {s d:TypeId} {x v:Value} {H':AH} (h:zjk P G H s d x = some (v,H')):H.nx <= H'.nx:=by
 unfold zjk at h
 replace h:=(cc h).2
 split at h
 ·split at h
  ·have:=(cc h).2; cases this; exact zyF _
  ·cases h
 ·cases h
theorem zoD (h:zH w0 G L H w) {s d:TypeId} {v x r:Value} {H':AH} (hr:zjk P G H s d v = some (r,H')) (hx:VR L v x) :
  ∃ y w',(convert s d x).run P w = .ok y w'/\zH w0 G L H' w'/\VR L r y:=by
 unfold zjk at hr
 have c0:=(cc hr).1
 replace hr:=(cc hr).2
 simp only [zyL] at c0
 have hsd:s = d:=zyM c0.1
 subst hsd
 obtain ⟨e,hu,he⟩:=zaW c0.2
 split at hr
 ·rename_i b o n c
  split at hr
  ·rename_i nn tr ty op hb
   obtain ⟨c1,hr⟩:=cc hr
   simp only [zyO,Prod.mk.injEq] at hr
   obtain ⟨rfl,rfl⟩:=hr
   simp only [zyL] at c1
   have hG:=ble c1.1.1
   have hs:=c1.1.2
   cases hx with
   | slice hp =>
    rename_i p
    obtain ⟨cur,fr,a1,a2,a3,a4⟩:=h.obj b _ p hb hp
    have hfr:fr = (0,0):=by
     rcases a2 with ⟨_,q⟩ | ⟨q,_⟩ | ⟨_,q⟩ | q
     ·exact q
     ·cases q
     ·exact q
     ·exact absurd q (Nat.not_lt_zero _)
    subst hfr
    have hrun:(convert s s (.slice (some ⟨p.b,p.base + o,none⟩) n (zbx c p.ext))).run P w = .ok (.slice (some ⟨p.b,p.base + o,none⟩) n (zbx c p.ext)) (w.freeze ⟨p.b,cur.size,none⟩ 1):=by
     have hsh:w.shape? p.b = some (ty,cur.size):=by
      unfold World.shape?
      rw [a1]
     simp [convert,run_underlying hu,run_underlying he,markStringish,hsh]
    have hfz:∀ k,(w.freeze ⟨p.b,cur.size,none⟩ 1).heap[k]? = if k = p.b then some (.cells cur ty (cur.size,cur.size + 1)) else w.heap[k]?:=fun k=>by
     unfold World.freeze
     rw [if_neg (by decide)]
     simp only [Array.getElem?_modify]
     by_cases e:p.b = k
     ·subst e; simp [a1]
     ·rw [if_neg e,if_neg (fun q=>e q.symm)]
    refine ⟨_,_,hrun,h.upd hb rfl hp hG hs (fun k hk=>by rw [hfz,if_neg hk]) (by unfold World.freeze; rw [if_neg (by decide)]; simp) (by unfold World.freeze; rw [if_neg (by decide)]) (by unfold World.freeze; rw [if_neg (by decide)]) (by unfold World.freeze; rw [if_neg (by decide)]) ?_,.slice hp⟩
    refine ⟨cur,(cur.size,cur.size + 1),by rw [hfz,if_pos rfl],.inr (.inl ⟨rfl,.inr (zyF _)⟩),a3,a4⟩
  ·cases hr
 ·cases hr
theorem zra {u:TypeId} (h:zvm P u = true):∃ k,P.underlying u = some (.int k):=by
 unfold zvm at h
 split at h
 ·rename_i k hu; exact ⟨k,hu⟩
 ·cases h
theorem zew {t u ty e:TypeId} {i:TypeInfo} {z:Value} {m:Nat} (ht:P.underlying t = some (.slice e)) (hu:zvm P u = true) (hi:P.info? e = some i) (hz:i.zero = some z) (hm:0 < m) (hsz:0 < i.size) (hm2:m <= 4294967296) (hb:m * i.bytes <= 140737488355328) {w:World} :
  (Builtin.append_ #[t,u] ty #[.slice none 0 0,.int .i64 (m:Int)]).run P w =
   .ok (.slice (some ⟨w.heap.size,0,none⟩) (0 + m) (grownCap w (0 + m) 0 e))
    (w.drew.alloc (.cells ((#[]:Array Value)++Builtin.zeroCells z.cells m++Builtin.zeroCells z.cells (grownCap w (0 + m) 0 e - (0 + m))) e)):=by
 obtain ⟨k,hk⟩:=zra hu
 have hwrap:IntKind.i64.wrap (m:Int) = (m:Int):=by
  have e1:(m:Int) % 2 ^ 64 = (m:Int):=Int.emod_eq_of_lt (by omega) (by omega)
  have e2:¬ ((m:Int) ≥ 2 ^ (64 - 1)):=by omega
  simp only [IntKind.wrap,IntKind.bits,IntKind.signed,e1,e2,decide_false,Bool.and_false,Bool.false_eq_true,if_false]
 have h0:¬ ((m:Int) < 0):=by omega
 have h1:¬ (281474976710656 < (m:Int) * (i.bytes:Int)):=by
  have:((m * i.bytes:Nat):Int) <= ((140737488355328:Nat):Int):=Int.ofNat_le.2 hb
  rw [Int.natCast_mul] at this
  generalize (m:Int) * (i.bytes:Int) = q at this ⊢
  omega
 have h2:¬ (m <= 0):=by omega
 have h3:¬ ((9223372036854775807:Int) < (m:Int)):=by omega
 have h4:=growslice_fits (need:=m) (old:=0) (bytes:=i.bytes) (by omega) hb
 have h4':¬ (281474976710656 < Builtin.nextslicecap m 0 * i.bytes):=by omega
 have h5:¬ (m * i.size = 0):=by
  have:=Nat.mul_pos hm hsz
  omega
 simp [Builtin.append_,run_underlying ht,run_underlying hk,sizeOf,typeInfo,zeroValue,hi,hz,asInt,asIntOf,hwrap,h0,h1,h3,h4',h5,Question.forced,Builtin.firstCells,newRow,grownCap]
 omega
theorem zoE {t u:TypeId} {s x v:Value} {H':AH} (h:zcd P H t u s x = some (v,H')):H.nx <= H'.nx:=by
 unfold zcd at h
 split at h
 ·split at h
  ·split at h
   ·replace h:=(cc h).2
    split at h
    ·cases h; exact Nat.le_succ _
    ·cases h
   ·cases h
  ·cases h
 ·cases h
theorem zkC (h:zH w0 G L H w) {t u ty:TypeId} {s x s' x' v:Value} {H':AH} (hr:zcd P H t u s x = some (v,H')) (hs:VR L s s') (hx:VR L x x') :
  ∃ y w' L',(Builtin.append_ #[t,u] ty #[s',x']).run P w = .ok y w'/\Lam.ext H.nx L L'/\zH w0 G L' H' w'/\VR L' v y:=by
 unfold zcd at hr
 split at hr
 ·rename_i e he
  have hu:=qS he
  split at hr
  ·rename_i i n hi
   split at hr
   ·rename_i z hz
    have c0:=(cc hr).1
    replace hr:=(cc hr).2
    simp only [zyL] at c0
    obtain ⟨⟨⟨⟨⟨⟨⟨⟨⟨⟨c1,c2⟩,c3⟩,c4⟩,c5⟩,c6⟩,c7⟩,c8⟩,c9⟩,c10⟩,c11⟩:=c0
    split at hr
    ·cases n with
     | negSucc q=>cases c2
     | ofNat m =>
      simp only [zyO,Prod.mk.injEq] at hr
      obtain ⟨rfl,rfl⟩:=hr
      cases hs
      have hx':x' = .int .i64 (m:Int):=hx.eq_flat rfl
      subst hx'
      have c4:z.cells.size = i.size:=zyM c4
      simp only [Int.ofNat_eq_natCast,Int.toNat_natCast] at c3 c8 c9 c10 ⊢
      have c3:0 < m:=by simpa using c3
      have c5:0 < i.size:=by simpa using c5
      have hrun:=zew (P:=P) (ty:=ty) (w:=w) hu c1 hi hz c3 c5 (ble c9) (ble c8)
      have hone:(Builtin.zeroCells z.cells m).toList.all (·.oneCell') = true/\(Builtin.zeroCells z.cells m).toList.all flat = true:=by
       constructor <;>
       ·rw [List.all_eq_true] at c6 c7 ⊢
        intro y hy
        simp only [Builtin.zeroCells,Array.toList_map,List.mem_map] at hy
        obtain ⟨j,hj,rfl⟩:=hy
        have hlt:j % z.cells.size < z.cells.size:=Nat.mod_lt _ (by omega)
        rw [getElem!_pos z.cells _ hlt]
        first | exact c6 _ (by simp) | exact c7 _ (by simp)
      have hsize:(Builtin.zeroCells z.cells m).size = m * i.size:=by rw [size_zeroCells,c4]
      have hl:=zeI (L:=L) (w:=w) (n:=0) (m:=m) (sz:=i.size) (cap:=0) (e:=e) (z:=z) (olds:=[]) (news:=(Builtin.zeroCells z.cells m).toList) (xo:=[]) (xn:=(Builtin.zeroCells z.cells m).toList)
       (LR.refl_flat fun c hc=>List.all_eq_true.1 hone.2 c hc) (by simp [hsize]) hone.1 (by simpa using c10) c4 (.inl rfl) (by have:=ble c9; omega)
      obtain ⟨L',l1,l2,l3⟩:=h.laid (L:=L) hl c11
      simp only [List.nil_append,Nat.zero_add] at l2 l3
      refine ⟨_,_,L',hrun,l1,?_,?_⟩
      ·simpa using l2
      ·simpa using l3
    ·cases hr
   ·cases hr
  ·cases hr
 ·cases hr
theorem zrb {t:TypeId} {x v:Value} {H':AH} (h:zet P G H t x = some (v,H')):H.nx <= H'.nx:=by
 unfold zet at h
 split at h
 ·have:=(cc h).2; cases this; exact zyF _
 ·split at h
  ·split at h
   ·split at h
    ·have:=(cc h).2; cases this; exact zyF _
    ·cases h
   ·cases h
  ·cases h
 ·cases h
theorem zmw (h:zH w0 G L H w) {t ty:TypeId} {x x' v:Value} {H':AH} (hr:zet P G H t x = some (v,H')) (hx:VR L x x') :
  ∃ w',(Builtin.clear_ #[t] ty #[x']).run P w = .ok (.tuple #[]) w'/\zH w0 G L H' w'/\v = .tuple #[]:=by
 unfold zet at hr
 split at hr
 ·have c0:=(cc hr).1
  replace hr:=(cc hr).2
  simp only [zyO,Prod.mk.injEq] at hr
  obtain ⟨rfl,rfl⟩:=hr
  cases hx
  split at c0
  ·rename_i e he
   have hu:=qS he
   exact ⟨w,by simp [Builtin.clear_,run_underlying hu],h,rfl⟩
  ·cases c0
 ·rename_i b o n c
  split at hr
  ·rename_i e he
   have hu:=qS he
   split at hr
   ·rename_i i hi
    split at hr
    ·rename_i z nn tr ty' op fz hz hb
     have c0:=(cc hr).1
     replace hr:=(cc hr).2
     simp only [zyO,Prod.mk.injEq] at hr
     obtain ⟨rfl,rfl⟩:=hr
     simp only [zyL] at c0
     obtain ⟨⟨⟨⟨⟨⟨⟨c1,c2⟩,c3⟩,c4⟩,c5⟩,c6⟩,c7⟩,c8⟩:=c0
     cases hx with
     | slice hp =>
      rename_i p
      obtain ⟨w',q1,q2,_⟩:=h.write (P:=P) hb hp (ble c1) c2 (off:=o) (cs:=(Builtin.zeroCells z.cells n).toList) (xs:=(Builtin.zeroCells z.cells n).toList) (ble c5) c3 c6 (ble c8) (LR.refl_flat fun y hy=>List.all_eq_true.1 c7 y hy)
      refine ⟨w',?_,q2,rfl⟩
      have c4:0 < n:=by simpa using c4
      cases n with
      | zero=>omega
      | succ n=>simp [Builtin.clear_,run_underlying hu,zeroValue,typeInfo,hi,hz,q1]
    ·cases hr
   ·cases hr
  ·cases hr
 ·cases hr
end
end Go.Run
noncomputable section
namespace Go.Run
open Go.RowKit
def Yn (P : Program) (F : T Func) : Prop := ∀ f fn, F.get f = some fn -> P.funcs[f]? = some fn /\ fn.body.isSome = true /\ fn.name ≠ "runtime.NumGoroutine"
section
variable {P:Program} {F:T Func} {w0:World} {G:Nat} {L:Lam} {H:AH} {w:World}
theorem run_callFunc (hF:Yn P F) {f:FuncId} {fn:Func} (h:F.get f = some fn) (args:Array Value) (w:World):(callFunc f args).run P w = .ok (.enter f args) w:=by
 obtain ⟨h1,h2,h3⟩:=hF f fn h
 have h4:¬ fn.body = none:=by intro q; rw [q] at h2; cases h2
 simp [callFunc,program,Sem.run,h1,h4,h3]
theorem zaQ (f:FuncId) (args:List Value):zkx P H f args = .vals [] ∨ ∃ x,args = [x]/\zg1 P f = true/\zkx P H f args = .vals [(x,H)]:=by
 unfold zkx
 split
 ·rename_i x
  cases hb:zg1 P f with
  | false=>exact .inl rfl
  | true=>exact .inr ⟨x,rfl,rfl,rfl⟩
 ·exact .inl rfl
theorem zg5 (_hF:Yn P F) {f:FuncId} {args:List Value} {g:FuncId} {as:List Value} (h:zfj P H F f args = .call g as):g = f/\as = args/\∃ fn,F.get f = some fn/\args.length <= fn.ntmps/\zq fn.ntmps = true:=by
 unfold zfj at h
 split at h
 ·rename_i fn hf
  cases hc:(Nat.ble args.length fn.ntmps && zq fn.ntmps) with
  | false=>rw [hc] at h; cases h
  | true =>
   rw [hc] at h
   cases h
   simp only [zyL] at hc
   exact ⟨rfl,rfl,fn,hf,ble hc.1,hc.2⟩
 ·cases hc:args.all flat with
  | false =>
   rw [hc] at h
   simp only [cond_false] at h
   rcases zaQ (P:=P) (H:=H) f args with e | ⟨x,_,_,e⟩ <;> rw [e] at h <;> cases h
  | true =>
   rw [hc] at h
   simp only [cond_true] at h
   split at h
   ·rename_i v _
    cases hv:flat v <;> rw [hv] at h <;> cases h
   ·cases h
theorem zg6 {f:FuncId} {args:List Value} {l:List (Value × AH)} (h:zfj P H F f args = .vals l):l = [] ∨ ∃ v,l = [(v,H)]/\∀ (L:Lam) (args':List Value),LR L args args'->∀ w,∃ x,(callFunc f args'.toArray).run P w = .ok (.value x) w/\VR L v x:=by
 unfold zfj at h
 split at h
 ·rename_i fn hf
  cases hc:(Nat.ble args.length fn.ntmps && zq fn.ntmps) with
  | false=>rw [hc] at h; cases h; exact .inl rfl
  | true=>rw [hc] at h; cases h
 ·cases hc:args.all flat with
  | false =>
   rw [hc] at h
   simp only [cond_false] at h
   rcases zaQ (P:=P) (H:=H) f args with e | ⟨x,rfl,hb,e⟩
   ·rw [e] at h; cases h; exact .inl rfl
   ·rw [e] at h; cases h
    refine .inr ⟨x,rfl,fun L args' hl w=>?_⟩
    obtain ⟨y,ys,rfl,h1,h2⟩:=hl.cons_inv
    have:=h2.nil_inv; subst this
    exact ⟨y,zmu hb y w,h1⟩
  | true =>
   rw [hc] at h
   simp only [cond_true] at h
   split at h
   ·rename_i v hv0
    cases hv:flat v with
    | false=>rw [hv] at h; cases h; exact .inl rfl
    | true =>
     rw [hv] at h; cases h
     exact .inr ⟨v,rfl,fun L args' hl w=>⟨v,zkB hc hl hv0 w,VR.refl_flat hv⟩⟩
   ·cases h; exact .inl rfl
theorem zfk {f:FuncId} {args:List Value} {l:Nat} {as:List Value} (h:zfj P H F f args = .round l as):False:=by
 unfold zfj at h
 split at h
 ·rename_i fn hf
  cases hc:(Nat.ble args.length fn.ntmps && zq fn.ntmps) with
  | false=>rw [hc] at h; cases h
  | true=>rw [hc] at h; cases h
 ·cases hc:args.all flat with
  | false =>
   rw [hc] at h
   simp only [cond_false] at h
   rcases zaQ (P:=P) (H:=H) f args with e | ⟨x,_,_,e⟩ <;> rw [e] at h <;> cases h
  | true =>
   rw [hc] at h
   simp only [cond_true] at h
   split at h
   ·rename_i v _
    cases hv:flat v <;> rw [hv] at h <;> cases h
   ·cases h
theorem zmx (xt:TypeId) (a:Addr) (s m:String) (w:World):(Builtin.ssaWrapNilChk_ #[xt] xt #[.pointer (some a),strVal s,strVal m]).run P w = .ok (.pointer (some a)) w:=rfl
theorem zkD (h:zH w0 G L H w) {t:TypeId} {v x:Value} {name:String} {f:FuncId} {r:Value} (hr:zkv P H t v name = some (f,r)) (hx:VR L v x):∃ y,VR L r y/\∀ n,(method (n + 1) t x name).run P w = .ok (f,y) w:=by
 unfold zkv at hr
 split at hr
 ·rename_i ti hti
  split at hr
  ·rename_i m hm
   have c0:=(cc hr).1
   replace hr:=(cc hr).2
   have hp:m.path.toList = []:=by simpa using c0
   have hp':m.path = #[]:=by simpa using c0
   split at hr
   ·rename_i f' e hf hu
    cases hr
    exact ⟨x,hx,fun n=>by simp [method,typeInfo,hti,hm,hp,follow,hf,receiverAt,run_underlying hu,Place.get]⟩
   ·rename_i f' e hf hu
    split at hr
    ·rename_i u hl
     cases hr
     obtain ⟨ad,rfl,y,q1,q2⟩:=zcO h hl hx
     exact ⟨y,q2,fun n=>by simp [method,typeInfo,hti,hm,hp',follow,hf,receiverAt,run_underlying hu,Place.get,zmx,asAddr,q1]⟩
    ·cases hr
   ·rename_i f' d hn hf hu
    cases hr
    refine ⟨x,hx,fun n=>?_⟩
    cases d <;> first | (exact (hn _ rfl).elim) | simp [method,typeInfo,hti,hm,hp,follow,hf,receiverAt,run_underlying hu,Place.get]
   ·cases hr
  ·cases hr
 ·cases hr
def XSpec (P:Program) (F:T Func) (w0:World) (G:Nat) (L:Lam) (n:Nat) (w:World) (ρ':Ev) (o:Oper):XR->Prop
 | .vals l=>l ≠ []->zyb w0 G L n l ((execOp ρ' o).run P w)
 | .call f args=>∃ args' fn,(execOp ρ' o).run P w = .ok (.enter f args'.toArray) w/\LR L args args'/\F.get f = some fn/\args.length <= fn.ntmps/\zq fn.ntmps = true
 | .round l args=>∃ args' p,(execOp ρ' o).run P w = (Instr.yield p.b args'.toArray).run P w/\L l = some p/\LR L args args'
theorem zrc {t:TypeId} {x y:Value} {H':AH} (h:zeH P G H t x y = some H'):H.nx <= H'.nx:=by
 unfold zeH at h
 split at h
 ·split at h
  ·have:=(cc h).2; cases this; exact zyF _
  ·cases h
 ·cases h
theorem zg7 {t:TypeId} {m k v:Value} {H':AH} (h:zaZ P G H t m k v = some H'):H.nx <= H'.nx:=by
 unfold zaZ at h
 split at h
 ·cases h
 ·split at h
  ·split at h
   ·replace h:=(cc h).2
    split at h
    ·split at h
     ·have:=(cc h).2; cases this; exact zyF _
     ·cases h
    ·cases h; exact zyF _
    ·cases h
   ·cases h
  ·cases h
theorem zs6 {it v:Value} {s:Bool} {H':AH} (h:(v,H') ∈ zhp G H it s):H.nx <= H'.nx:=by
 unfold zhp at h
 split at h
 ·rename_i b
  split at h
  ·rename_i str pos hb
   cases hc:(Nat.ble G b && zq b) with
   | false=>rw [hc] at h; simp at h
   | true =>
    rw [hc] at h
    cases hl:Nat.blt pos str.size with
    | true=>rw [hl] at h; simp at h; rw [h.2]; exact zyF _
    | false=>rw [hl] at h; simp at h; rw [h.2]; exact zyF _
  ·simp at h; rw [h.2]; exact zyF _
  ·split at h
   ·rename_i m since seen last hb _ es clock hm
    cases hc:(Nat.ble G b && zq b && !(!seen.isEmpty && !es.isEmpty && es.all (fun e=>Nat.ble last e.born))) with
    | false=>rw [hc] at h; simp at h
    | true =>
     rw [hc] at h
     simp only [cond_true,List.mem_append,List.mem_map] at h
     rcases h with h | ⟨e,_,h⟩
     ·cases ho:(List.filter (fun e=>Nat.blt e.born since) (List.filter (fun e=>!seen.toList.contains e.born) es)).isEmpty with
      | true=>rw [ho] at h; simp at h; rw [h.2]; exact zyF _
      | false=>rw [ho] at h; simp at h
     ·cases h; exact zyF _
   ·simp at h
  ·simp at h
 ·simp at h
theorem zoF (hF:Yn P F) (h:zH w0 G L H w) {ρ ρ':Ev} {o:Oper} (hop:∀ x ∈ o.op.operands,VR L (ρ x) (ρ' x)):XSpec P F w0 G L H.nx w ρ' o (evalX P F G H ρ o):=by
 have nope:∀ {l:List (Value × AH)},l = []->XSpec P F w0 G L H.nx w ρ' o (.vals l):=fun hl hne=>absurd hl hne
 generalize hq:evalX P F G H ρ o = q
 unfold evalX at hq
 split at hq
 ·rename_i s d x ho
  cases hs:zjk P G H s d (ρ x) with
  | none=>rw [hs] at hq; subst hq; exact nope rfl
  | some r =>
   obtain ⟨v,H'⟩:=r
   rw [hs] at hq; subst hq
   obtain ⟨y,w',q1,q2,q3⟩:=zoD h hs (hop x (by simp [ho,Op.operands]))
   exact fun _=>⟨_,_,List.mem_singleton.2 rfl,zs5 hs,y,w',L,Lam.ext_refl _ L,q2,q3,.inl (by simp [execOp,ho,q1])⟩
 ·rename_i t a x ho
  cases hs:zeH P G H t (ρ a) (ρ x) with
  | none=>rw [hs] at hq; subst hq; exact nope rfl
  | some H' =>
   rw [hs] at hq; subst hq
   have HNX:H.nx <= H'.nx:=zrc hs
   obtain ⟨w',q1,q2⟩:=zmX h hs (hop a (by simp [ho,Op.operands])) (hop x (by simp [ho,Op.operands]))
   exact fun _=>⟨_,_,List.mem_singleton.2 rfl,HNX,undef,w',L,Lam.ext_refl _ L,q2,VR.undef L,.inr ⟨rfl,by simp [execOp,ho,q1]⟩⟩
 ·rename_i t m k v ho
  cases hs:zaZ P G H t (ρ m) (ρ k) (ρ v) with
  | none=>rw [hs] at hq; subst hq; exact nope rfl
  | some H' =>
   rw [hs] at hq; subst hq
   have HNX:H.nx <= H'.nx:=zg7 hs
   obtain ⟨w',q1,q2⟩:=zdQ h hs (hop m (by simp [ho,Op.operands])) (hop k (by simp [ho,Op.operands])) (hop v (by simp [ho,Op.operands]))
   exact fun _=>⟨_,_,List.mem_singleton.2 rfl,HNX,undef,w',L,Lam.ext_refl _ L,q2,VR.undef L,.inr ⟨rfl,by simp [execOp,ho,q1]⟩⟩
 ·rename_i t m k v ho
  cases hs:zaZ P G H t (ρ m) (ρ k) (ρ v) with
  | none=>rw [hs] at hq; subst hq; exact nope rfl
  | some H' =>
   rw [hs] at hq; subst hq
   have HNX:H.nx <= H'.nx:=zg7 hs
   obtain ⟨w',q1,q2⟩:=zdQ h hs (hop m (by simp [ho,Op.operands])) (hop k (by simp [ho,Op.operands])) (hop v (by simp [ho,Op.operands]))
   exact fun _=>⟨_,_,List.mem_singleton.2 rfl,HNX,undef,w',L,Lam.ext_refl _ L,q2,VR.undef L,.inr ⟨rfl,by simp [execOp,ho,q1]⟩⟩
 ·rename_i t m k ho
  cases hs:Qo P G H t (ρ m) (ρ k) with
  | none=>rw [hs] at hq; subst hq; exact nope rfl
  | some r =>
   obtain ⟨v,H'⟩:=r
   rw [hs] at hq; subst hq
   obtain ⟨x,w',q1,q2,q3⟩:=zhq h hs (hop m (by simp [ho,Op.operands])) (hop k (by simp [ho,Op.operands]))
   exact fun _=>⟨_,_,List.mem_singleton.2 rfl,zkS hs,x,w',L,Lam.ext_refl _ L,q3,q2,.inl (by simp [execOp,ho,q1])⟩
 ·rename_i t m s x ho
  cases hs:Yf G H (ρ m) (ρ s) (ρ x) with
  | none=>rw [hs] at hq; subst hq; exact nope rfl
  | some H' =>
   rw [hs] at hq; subst hq
   have HNX:H.nx <= H'.nx:=zhr hs
   obtain ⟨w',q1,q2⟩:=zeJ (P:=P) (t:=t) h hs (hop m (by simp [ho,Op.operands])) (hop s (by simp [ho,Op.operands])) (hop x (by simp [ho,Op.operands]))
   exact fun _=>⟨_,_,List.mem_singleton.2 rfl,HNX,undef,w',L,Lam.ext_refl _ L,q2,VR.undef L,.inr ⟨rfl,by simp [execOp,ho,q1]⟩⟩
 ·rename_i it s ho
  subst hq
  intro hne
  obtain ⟨v,H',q0,x,w',q1,q2,q3⟩:=zoV (P:=P) (ty:=o.type) h hne (hop it (by simp [ho,Op.operands]))
  exact ⟨v,H',q0,zs6 q0,x,w',L,Lam.ext_refl _ L,q2,q3,.inl (by simp [execOp,ho,q1])⟩
 ·rename_i it ho
  cases hs:zkQ H (ρ it) with
  | none=>rw [hs] at hq; subst hq; exact nope rfl
  | some v =>
   rw [hs] at hq; subst hq
   obtain ⟨x,q1,q2⟩:=zmY (P:=P) h hs (hop it (by simp [ho,Op.operands]))
   exact fun _=>⟨_,_,List.mem_singleton.2 rfl,zyF _,x,w,L,Lam.ext_refl _ L,h,q2,.inl (by simp [execOp,ho,q1])⟩
 ·rename_i args tys ho
  split at hq
  ·rename_i s x t u ha ht
   cases hs:zgl P G H t u (ρ s) (ρ x) with
   | none =>
    rw [hs] at hq
    simp only at hq
    cases hz:zcd P H t u (ρ s) (ρ x) with
    | none=>rw [hz] at hq; subst hq; exact nope rfl
    | some r =>
     obtain ⟨v,H'⟩:=r
     rw [hz] at hq; subst hq
     have hea:args = #[s,x]:=by apply Array.ext'; simp [ha]
     have het:tys = #[t,u]:=by apply Array.ext'; simp [ht]
     obtain ⟨y,w',L',q1,q2,q3,q4⟩:=zkC (ty:=o.type) h hz (hop s (by simp [ho,Op.operands,Call.operands,hea])) (hop x (by simp [ho,Op.operands,Call.operands,hea]))
     refine fun _=>⟨_,_,List.mem_singleton.2 rfl,zoE hz,y,w',L',q2,q3,q4,.inl ?_⟩
     simp [execOp,ho,resolve,invoke,builtin,hea,het,q1]
   | some r =>
    obtain ⟨v,H'⟩:=r
    rw [hs] at hq; subst hq
    have hea:args = #[s,x]:=by apply Array.ext'; simp [ha]
    have het:tys = #[t,u]:=by apply Array.ext'; simp [ht]
    obtain ⟨q0,y,w',L',q1,q2,q3,q4⟩:=zkP (ty:=o.type) h hs (hop s (by simp [ho,Op.operands,Call.operands,hea])) (hop x (by simp [ho,Op.operands,Call.operands,hea]))
    refine fun _=>⟨_,_,List.mem_singleton.2 rfl,q0,y,w',L',q2,q3,q4,.inl ?_⟩
    simp [execOp,ho,resolve,invoke,builtin,hea,het,q1]
  ·subst hq; exact nope rfl
 ·rename_i args tys ho
  split at hq
  ·rename_i s x t u ha ht
   cases hs:zky P t (ρ s) (ρ x) with
   | none=>rw [hs] at hq; subst hq; exact nope rfl
   | some v =>
    rw [hs] at hq; subst hq
    have hea:args = #[s,x]:=by apply Array.ext'; simp [ha]
    have het:tys = #[t,u]:=by apply Array.ext'; simp [ht]
    obtain ⟨q1,q2⟩:=zmv (w:=w) (u:=u) (ty:=o.type) hs (hop s (by simp [ho,Op.operands,Call.operands,hea])) (hop x (by simp [ho,Op.operands,Call.operands,hea]))
    refine fun _=>⟨_,_,List.mem_singleton.2 rfl,zyF _,v,w,L,Lam.ext_refl _ L,h,q2,.inl ?_⟩
    simp [execOp,ho,resolve,invoke,builtin,hea,het,q1]
  ·subst hq; exact nope rfl
 ·rename_i args tys ho
  split at hq
  ·rename_i x t ha ht
   cases hs:zet P G H t (ρ x) with
   | none=>rw [hs] at hq; subst hq; exact nope rfl
   | some r =>
    obtain ⟨v,H'⟩:=r
    rw [hs] at hq; subst hq
    have hea:args = #[x]:=by apply Array.ext'; simp [ha]
    have het:tys = #[t]:=by apply Array.ext'; simp [ht]
    obtain ⟨w',q1,q2,rfl⟩:=zmw (ty:=o.type) h hs (hop x (by simp [ho,Op.operands,Call.operands,hea]))
    refine fun _=>⟨_,_,List.mem_singleton.2 rfl,zrb hs,_,w',L,Lam.ext_refl _ L,q2,VR.refl_flat (by rfl),.inl ?_⟩
    simp [execOp,ho,resolve,invoke,builtin,hea,het,q1]
  ·subst hq; exact nope rfl
 ·rename_i args tys ho
  split at hq
  ·rename_i p l t u ha ht
   cases hs:zju P G H t (ρ p) (ρ l) with
   | none=>rw [hs] at hq; subst hq; exact nope rfl
   | some r =>
    obtain ⟨v,H'⟩:=r
    rw [hs] at hq; subst hq
    have hea:args = #[p,l]:=by apply Array.ext'; simp [ha]
    have het:tys = #[t,u]:=by apply Array.ext'; simp [ht]
    obtain ⟨w',q1,q2,q3⟩:=zoW (it:=u) (ty:=o.type) h hs (hop p (by simp [ho,Op.operands,Call.operands,hea])) (hop l (by simp [ho,Op.operands,Call.operands,hea]))
    refine fun _=>⟨_,_,List.mem_singleton.2 rfl,zti hs,v,w',L,Lam.ext_refl _ L,q3,VR.refl_flat q2,.inl ?_⟩
    simp [execOp,ho,resolve,invoke,builtin,hea,het,q1]
  ·subst hq; exact nope rfl
 ·rename_i args tys ho
  split at hq
  ·rename_i m k t u ha ht
   cases hs:zck P G H t (ρ m) (ρ k) with
   | none=>rw [hs] at hq; subst hq; exact nope rfl
   | some H' =>
    rw [hs] at hq; subst hq
    have hea:args = #[m,k]:=by apply Array.ext'; simp [ha]
    have het:tys = #[t,u]:=by apply Array.ext'; simp [ht]
    obtain ⟨w',q1,q2⟩:=zkR (t2:=u) (ty:=o.type) h hs (hop m (by simp [ho,Op.operands,Call.operands,hea])) (hop k (by simp [ho,Op.operands,Call.operands,hea]))
    refine fun _=>⟨_,_,List.mem_singleton.2 rfl,zoX hs,_,w',L,Lam.ext_refl _ L,q2,VR.refl_flat (by rfl),.inl ?_⟩
    simp [execOp,ho,resolve,invoke,builtin,hea,het,q1,undef]
  ·subst hq; exact nope rfl
 ·rename_i f args tys ho
  have hf:=hop f (by simp [ho,Op.operands,Call.operands])
  have hm:∀ x ∈ args.toList,x ∈ o.op.operands:=fun x hx=>by
   rw [ho]; exact Array.mem_append.2 (.inr (by simpa using hx))
  have hrel:=zaY (ρ:=ρ) (ρ':=ρ') (L:=L) args.toList fun x hx=>hop x (hm x hx)
  split at hq
  ·rename_i g first captured hρ
   rw [hρ] at hf
   generalize hf':ρ' f = f' at hf
   cases hf with
   | func hfr a1 a2 b1 b2 =>
    rename_i f2 first' captured'
    cases hfr
    have hl:LR L (first.toList++args.toList.map ρ++captured.toList) (first'.toList++args.toList.map ρ'++captured'.toList) :=
     ((AR.toList ⟨a1,b1⟩).append hrel).append (AR.toList ⟨a2,b2⟩)
    rcases zoA hq with hq | ⟨⟨mv,mH⟩,hm1,rfl⟩
    rotate_left
    ·obtain ⟨y,w',L',m1,m2,m3,m4⟩:=zoC h hm1 hl
     have e:(first'.toList++args.toList.map ρ'++captured'.toList).toArray = first'++args.map ρ'++captured':=by apply Array.ext'; simp
     rw [e] at m1
     refine fun _=>⟨_,_,List.mem_singleton.2 rfl,zs4 hm1,y,w',L',m2,m3,m4,.inl ?_⟩
     simp only [execOp,ho,resolve,hf',Deferred.ofValue,Sem.run_bind,Sem.run_pure,Result.andThen_ok,invoke]
     exact m1
    cases q with
    | vals l =>
     rcases zg6 hq with hv | ⟨v,rfl,hext⟩
     ·exact nope hv
     ·obtain ⟨x,hx,hvx⟩:=hext L _ hl w
      have e:(first'.toList++args.toList.map ρ'++captured'.toList).toArray = first'++args.map ρ'++captured':=by apply Array.ext'; simp
      rw [e] at hx
      refine fun _=>⟨_,_,List.mem_singleton.2 rfl,zyF _,x,w,L,Lam.ext_refl _ L,h,hvx,.inl ?_⟩
      simp only [execOp,ho,resolve,hf',Deferred.ofValue,Sem.run_bind,Sem.run_pure,Result.andThen_ok,invoke]
      exact hx
    | round l as=>exact (zfk hq).elim
    | call g' as =>
     obtain ⟨rfl,rfl,fn,c1,c2,c3⟩:=zg5 hF hq
     refine ⟨first'.toList++args.toList.map ρ'++captured'.toList,fn,?_,hl,c1,c2,c3⟩
     have hcall:=run_callFunc (P:=P) hF c1 (first'++args.map ρ'++captured') w
     have e:(first'.toList++args.toList.map ρ'++captured'.toList).toArray = first'++args.map ρ'++captured':=by apply Array.ext'; simp
     rw [e]
     simp only [execOp,ho,resolve,hf',Deferred.ofValue,Sem.run_bind,Sem.run_pure,Result.andThen_ok,invoke]
     exact hcall
  ·rename_i l first yc hρ
   rw [hρ] at hf
   generalize hf':ρ' f = f' at hf
   cases hf with
   | func hfr a1 a2 b1 b2 =>
    rename_i f2 first' captured'
    cases hfr with
    | same hff=>simp [zeE] at hff
    | yield hp =>
     rename_i p
     subst hq
     have hl:LR L (first.toList++args.toList.map ρ) (first'.toList++args.toList.map ρ'):=(AR.toList ⟨a1,b1⟩).append hrel
     refine ⟨_,p,?_,hp,hl⟩
     have e:(first'.toList++args.toList.map ρ').toArray = first'++args.map ρ':=by apply Array.ext'; simp
     rw [e]
     simp only [execOp,ho,resolve,hf',Deferred.ofValue,Sem.run_bind,Sem.run_pure,Result.andThen_ok,invoke]
  ·subst hq; exact nope rfl
 ·rename_i r name args tys ho
  have hr:=hop r (by simp [ho,Op.operands,Call.operands])
  have hm:∀ x ∈ args.toList,x ∈ o.op.operands:=fun x hx=>by
   rw [ho]; exact Array.mem_append.2 (.inr (by simpa using hx))
  have hrel:=zaY (ρ:=ρ) (ρ':=ρ') (L:=L) args.toList fun x hx=>hop x (hm x hx)
  split at hq
  ·rename_i t v hρ
   rw [hρ] at hr
   generalize hr':ρ' r = r' at hr
   cases hr with
   | iface hv =>
    rename_i x
    split at hq
    ·rename_i f recv hmeth
     obtain ⟨y,hy,hrun⟩:=zkD h hmeth hv
     cases q with
     | vals l =>
      rcases zg6 hq with hv | ⟨v,rfl,hext⟩
      ·exact nope hv
      ·obtain ⟨x2,hx,hvx⟩:=hext L _ (hrel.cons hy) w
       have e:(y :: args.toList.map ρ').toArray = #[y]++args.map ρ':=by apply Array.ext'; simp
       rw [e] at hx
       refine fun _=>⟨_,_,List.mem_singleton.2 rfl,zyF _,x2,w,L,Lam.ext_refl _ L,h,hvx,.inl ?_⟩
       have hdep:∃ n,P.types.size + Made.depth = n + 1:=by
        have:0 < Made.depth:=by decide
        exact ⟨P.types.size + Made.depth - 1,by omega⟩
       obtain ⟨n,hn⟩:=hdep
       have hmr:=hrun n
       have e0:(#[Value.iface t x]++args.map ρ')[0]? = some (.iface t x):=by
        rw [Array.getElem?_append_left (by exact Nat.zero_lt_one)]; rfl
       have e1:(#[Value.iface t x]++args.map ρ').extract 1 (#[Value.iface t x]++args.map ρ').size = args.map ρ':=by
        apply Array.ext'; simp
        exact List.take_of_length_le (by simp)
       have e2:program.run P w = .ok P w:=rfl
       simp only [execOp,ho,resolve,hr',Sem.run_bind,Sem.run_pure,Result.andThen_ok,invoke,e0,e1,callMethod,e2,hn,hmr]
       exact hx
     | round l as=>exact (zfk hq).elim
     | call g' as =>
      obtain ⟨rfl,rfl,fn,c1,c2,c3⟩:=zg5 hF hq
      refine ⟨y :: args.toList.map ρ',fn,?_,hrel.cons hy,c1,c2,c3⟩
      have hcall:=run_callFunc (P:=P) hF c1 (#[y]++args.map ρ') w
      have e:(y :: args.toList.map ρ').toArray = #[y]++args.map ρ':=by apply Array.ext'; simp
      rw [e]
      have hdep:∃ n,P.types.size + Made.depth = n + 1:=by
       have:0 < Made.depth:=by decide
       exact ⟨P.types.size + Made.depth - 1,by omega⟩
      obtain ⟨n,hn⟩:=hdep
      have hmr:=hrun n
      have e0:(#[Value.iface t x]++args.map ρ')[0]? = some (.iface t x):=by
       rw [Array.getElem?_append_left (by exact Nat.zero_lt_one)]; rfl
      have e1:(#[Value.iface t x]++args.map ρ').extract 1 (#[Value.iface t x]++args.map ρ').size = args.map ρ':=by
       apply Array.ext'; simp
       exact List.take_of_length_le (by simp)
      have e2:program.run P w = .ok P w:=rfl
      simp only [execOp,ho,resolve,hr',Sem.run_bind,Sem.run_pure,Result.andThen_ok,invoke,e0,e1,callMethod,e2,hn,hmr]
      exact hcall
    ·subst hq; exact nope rfl
  ·subst hq; exact nope rfl
 ·subst hq; exact nope rfl
theorem zfl (hF:Yn P F) (h:zH w0 G L H w) {ρ ρ':Ev} {o:Oper} (hop:∀ x ∈ o.op.operands,VR L (ρ x) (ρ' x)):XSpec P F w0 G L H.nx w ρ' o (zbK P F G H ρ o):=by
 unfold zbK
 cases hQ:zdO P H ρ o with
 | some v =>
  obtain ⟨x,q1,q2⟩:=zhj h hQ hop
  exact fun _=>⟨v,H,List.mem_singleton.2 rfl,zyF _,x,w,L,Lam.ext_refl _ L,h,q2,.inl q1⟩
 | none =>
  cases hA:zdP P H ρ o with
  | some r =>
   obtain ⟨ob,mk⟩:=r
   simp only
   cases hs:zq H.nx with
   | false=>exact fun hne=>absurd rfl hne
   | true =>
    obtain ⟨x,w',q1,q2⟩:=zho h hA hop
    obtain ⟨L',l1,l2,l3⟩:=h.laid q2 hs
    exact fun _=>⟨_,_,List.mem_singleton.2 rfl,Nat.le_succ _,x,w',L',l1,l2,l3,.inl q1⟩
  | none=>exact zoF hF h hop
end
end Go.Run
noncomputable section
namespace Go.Run
open Go.RowKit
inductive zaR (ops:Array Oper):Array Bool->List Nat->Prop where
 | nil {l:Array Bool} (h:Region.ready .any ops l = []):zaR ops l []
 | cons {l:Array Bool} {i:Nat} {rest:List Nat} (h:i ∈ Region.ready .any ops l) (k:zaR ops (l.setIfInBounds i true) rest):zaR ops l (i :: rest)
theorem filter_lt {α:Type} {p q:α->Bool}:∀ (l:List α),(∀ x,q x = true->p x = true)->(∃ x ∈ l,p x = true/\q x = false)->(l.filter q).length < (l.filter p).length
 | [],_,h=>by obtain ⟨x,hx,_⟩:=h; cases hx
 | a :: l,hs,h=>by
  have hle:∀ l:List α,(l.filter q).length <= (l.filter p).length:=by
   intro l
   induction l with
   | nil=>simp
   | cons b l ih =>
    simp only [List.filter_cons]
    cases hq:q b with
    | true=>rw [hs b hq]; simp; exact ih
    | false=>cases hp:p b <;> simp <;> omega
  obtain ⟨x,hx,h1,h2⟩:=h
  simp only [List.filter_cons]
  rcases List.mem_cons.1 hx with rfl | hx
  ·rw [h1,h2]; simp
   have:=hle l; omega
  ·have ih:=filter_lt l hs ⟨x,hx,h1,h2⟩
   cases hq:q a with
   | true=>rw [hs a hq]; simp; exact ih
   | false=>cases hp:p a <;> simp <;> omega
def unl (ops:Array Oper) (l:Array Bool):Nat:=((List.range ops.size).filter fun i=>!l.getD i true).length
theorem zqg {ops:Array Oper} {l:Array Bool} {i:Nat} (h:i ∈ Region.ready .any ops l):unl ops (l.setIfInBounds i true) < unl ops l:=by
 obtain ⟨h1,o,ho,_⟩:=mem_ready.1 h
 have hlt:i < ops.size:=(Array.getElem?_eq_some_iff.1 ho).1
 have hil:i < l.size:=by
  rcases Nat.lt_or_ge i l.size with q | q
  ·exact q
  ·rw [Array.getD_eq_getD_getElem?,Array.getElem?_eq_none q] at h1; cases h1
 refine filter_lt _ (fun x hx=>?_) ⟨i,by simpa using hlt,by simpa using h1,?_⟩
 ·by_cases e:i = x
  ·subst e
   exfalso
   rw [Array.getD_eq_getD_getElem?,Array.getElem?_setIfInBounds_self_of_lt hil] at hx
   simp at hx
  ·rwa [getD_set_ne true e] at hx
 ·rw [Array.getD_eq_getD_getElem?,Array.getElem?_setIfInBounds_self_of_lt hil]; rfl
theorem zqh {ops:Array Oper}:∀ (fuel t:Nat) (l:Array Bool),unl ops l <= fuel->zaR ops l (Region.linearise.go .any ops fuel t l [])
 | 0,t,l,h=>by
  refine .nil ?_
  cases hr:Region.ready .any ops l with
  | nil=>rfl
  | cons i rest =>
   have:=zqg (ops:=ops) (l:=l) (i:=i) (by rw [hr]; simp)
   omega
 | fuel + 1,t,l,h=>by
  simp only [Region.linearise.go]
  change zaR ops l (match (Region.ready .any ops l)[t % (Region.ready .any ops l).length]? with
   | some i=>Region.linearise.go .any ops fuel (t / (Region.ready .any ops l).length) (l.setIfInBounds i true) [i]
   | none=>[].reverse)
  cases hi:(Region.ready .any ops l)[t % (Region.ready .any ops l).length]? with
  | none =>
   refine .nil ?_
   cases hr:Region.ready .any ops l with
   | nil=>rfl
   | cons x xs =>
    rw [hr] at hi
    have hlt:t % (x :: xs).length < (x :: xs).length:=Nat.mod_lt _ (by simp)
    simp at hi
    simp at hlt
    omega
  | some i =>
   simp only []
   rw [linearise_go_acc,List.reverse_singleton,List.singleton_append]
   have hm:=List.mem_of_getElem? hi
   exact .cons hm (zqh fuel _ _ (by have:=zqg hm; omega))
def Cl (ops:Array Oper) (listed:Array Bool):Prop :=
 ∀ (j:Nat) (oj:Oper),ops[j]? = some oj->listed.getD j false = true->∀ e ∈ oj.after,Region.binds .any e = true->listed.getD e.on false = true
theorem anc_listed {ops:Array Oper} {listed:Array Bool} (hc:Cl ops listed) {i:Nat}:∀ (fuel j:Nat),ancB ops fuel j i = true ->
  (∀ oj,ops[j]? = some oj->∀ e ∈ oj.after,Region.binds .any e = true->listed.getD e.on false = true)->listed.getD i false = true
 | 0,_,h,_=>by simp [ancB] at h
 | fuel + 1,j,h,hj=>by
  simp only [ancB] at h
  split at h
  ·rename_i o ho
   rw [List.any_eq_true] at h
   obtain ⟨e,he,h⟩:=h
   simp only [zyL,Bool.or_eq_true,beq_iff_eq] at h
   have hl:=hj o ho e (by simpa using he) h.1
   rcases h.2 with h2 | h2
   ·rw [<- h2]; exact hl
   ·exact anc_listed hc fuel e.on h2 fun oj hoj e' he' hb'=>hc e.on oj hoj hl e' he' hb'
  ·cases h
theorem unlisted_of {listed:Array Bool} {i:Nat} (h:listed.getD i true = false):listed.getD i false = false:=by
 rcases Nat.lt_or_ge i listed.size with h' | h'
 ·simpa [h'] using h
 ·simp [Array.getElem?_eq_none h'] at h
theorem Cl.step {ops:Array Oper} {listed:Array Bool} (hc:Cl ops listed) {i:Nat} (hi:i ∈ Region.ready .any ops listed):Cl ops (listed.setIfInBounds i true):=by
 intro j oj hoj hl e he hb
 obtain ⟨ui,oi,hoi,ai⟩:=mem_ready.1 hi
 by_cases hji:j = i
 ·subst hji
  rw [hoi] at hoj; cases hoj
  exact getD_set_true (ai e he hb)
 ·rw [getD_set_ne false (Ne.symm hji)] at hl
  exact getD_set_true (hc j oj hoj hl e he hb)
theorem zex {ops:Array Oper} {listed:Array Bool} (hc:Cl ops listed) {i j:Nat} (hi:i ∈ Region.ready .any ops listed) (ha:anc ops i j = true):listed.getD j false = true:=by
 obtain ⟨_,oi,hoi,ai⟩:=mem_ready.1 hi
 exact anc_listed hc _ i ha fun oj hoj=>by rw [hoi] at hoj; cases hoj; exact ai
theorem zaR.unlisted {ops:Array Oper} {l:Array Bool} {rest:List Nat} (h:zaR ops l rest):∀ i ∈ rest,l.getD i true = false:=by
 induction h with
 | nil _=>intro i hi; cases hi
 | @cons l j rest hj _ ih =>
  intro i hi
  rcases List.mem_cons.1 hi with rfl | hi
  ·exact (mem_ready.1 hj).1
  ·have:=ih i hi
   by_cases e:j = i
   ·subst e; exact (mem_ready.1 hj).1
   ·rwa [getD_set_ne true e] at this
theorem zaR.head_not_mem {ops:Array Oper} {l:Array Bool} {i:Nat} {rest:List Nat} (hi:i ∈ Region.ready .any ops l) (h:zaR ops (l.setIfInBounds i true) rest):i ∉ rest:=by
 intro hm
 have:=h.unlisted i hm
 obtain ⟨h1,o,ho,_⟩:=mem_ready.1 hi
 have hil:i < l.size:=by
  rcases Nat.lt_or_ge i l.size with q | q
  ·exact q
  ·rw [Array.getD_eq_getD_getElem?,Array.getElem?_eq_none q] at h1; cases h1
 rw [Array.getD_eq_getD_getElem?,Array.getElem?_setIfInBounds_self_of_lt hil] at this
 simp at this
theorem zaR.all {ops:Array Oper} (hd:∀ (i:Nat) (o:Oper),ops[i]? = some o->∀ e ∈ o.after,Region.binds .any e = true->e.on < i) {l:Array Bool} {rest:List Nat} (h:zaR ops l rest) (hs:l.size = ops.size) :
  ∀ i,i < ops.size->l.getD i true = false->i ∈ rest:=by
 induction h with
 | @nil l h =>
  intro i
  induction i using Nat.strongRecOn with
  | _ i ih =>
   intro hi hu
   exfalso
   have:i ∈ Region.ready .any ops l:=by
    refine mem_ready.2 ⟨hu,ops[i],zyK hi,fun e he hb=>?_⟩
    have hlt:=hd i _ (zyK hi) e he hb
    cases hl:l.getD e.on true with
    | false=>exact absurd (ih e.on hlt (by omega) hl) (by simp)
    | true =>
     have:e.on < l.size:=by omega
     simpa [this] using hl
   rw [h] at this; cases this
 | @cons l j rest hj _ ih =>
  intro i hi hu
  by_cases e:j = i
  ·subst e; simp
  ·refine List.mem_cons_of_mem _ (ih (by simpa using hs) i hi ?_)
   rwa [getD_set_ne true e]
theorem map_congr {ρ ρ':Ev} {l:List Operand} (h:∀ x ∈ l,ρ x = ρ' x):l.map ρ = l.map ρ':=List.map_congr_left h
theorem zmy {P:Program} {H:AH} {ρ ρ':Ev} {o:Oper} (h:∀ x ∈ o.op.operands,ρ x = ρ' x):zdO P H ρ o = zdO P H ρ' o:=by
 have om:∀ {x:Option Operand},(∀ y,x = some y->ρ y = ρ' y)->Zt ρ x = Zt ρ' x:=by
  intro x hx
  cases x with
  | none=>rfl
  | some y=>simp only [Zt,hx y rfl]
 unfold zdO
 cases ho:o.op with
 | move x=>simp only [h x (by simp [ho,Op.operands])]
 | assign x=>simp only [h x (by simp [ho,Op.operands])]
 | pick c a b=>simp only [h c (by simp [ho,Op.operands]),h a (by simp [ho,Op.operands]),h b (by simp [ho,Op.operands])]
 | load t a=>simp only [h a (by simp [ho,Op.operands])]
 | nilCheck x=>simp only [h x (by simp [ho,Op.operands])]
 | binOp op t x y yt=>simp only [h x (by simp [ho,Op.operands]),h y (by simp [ho,Op.operands])]
 | unOp op t x=>simp only [h x (by simp [ho,Op.operands])]
 | convert s d x=>simp only [h x (by simp [ho,Op.operands])]
 | makeInterface t x=>simp only [h x (by simp [ho,Op.operands])]
 | makeFunc f a b =>
  have h1:a.toList.map ρ = a.toList.map ρ':=map_congr fun x hx=>h x (by rw [ho]; exact Array.mem_append.2 (.inl (by simpa using hx)))
  have h2:b.toList.map ρ = b.toList.map ρ':=map_congr fun x hx=>h x (by rw [ho]; exact Array.mem_append.2 (.inr (by simpa using hx)))
  simp only [h1,h2]
 | slice t x lo hi mx =>
  have h1:Zt ρ lo = Zt ρ' lo:=om fun y hy=>h y (by simp [ho,Op.operands,hy])
  have h2:Zt ρ hi = Zt ρ' hi:=om fun y hy=>h y (by simp [ho,Op.operands,hy])
  have h3:Zt ρ mx = Zt ρ' mx:=om fun y hy=>h y (by simp [ho,Op.operands,hy])
  simp only [h x (by simp [ho,Op.operands]),h1,h2,h3]
 | fieldAddr s x f=>simp only [h x (by simp [ho,Op.operands])]
 | field t x f=>simp only [h x (by simp [ho,Op.operands])]
 | indexAddr t x i=>simp only [h x (by simp [ho,Op.operands]),h i (by simp [ho,Op.operands])]
 | index t x i=>simp only [h x (by simp [ho,Op.operands]),h i (by simp [ho,Op.operands])]
 | lookup t m k ok=>simp only [h m (by simp [ho,Op.operands]),h k (by simp [ho,Op.operands])]
 | typeAssert x xt a ok=>simp only [h x (by simp [ho,Op.operands])]
 | extract x i=>simp only [h x (by simp [ho,Op.operands])]
 | build t ps =>
  have:(ps.toList.map fun x=>(x.1,ρ x.2)) = ps.toList.map fun x=>(x.1,ρ' x.2):=List.map_congr_left fun x hx=>by
   rw [h x.2 (by simp [ho,Op.operands]; exact ⟨x.1,by simpa using hx⟩)]
  simp only [this]
 | call c =>
  obtain ⟨callee,args,tys⟩:=c
  cases callee with
  | builtin b =>
   have:args.toList.map ρ = args.toList.map ρ':=map_congr fun x hx=>h x (by rw [ho]; exact Array.mem_append.2 (.inr (by simpa using hx)))
   simp only [this]
  | value f=>rfl
  | invoke r n=>rfl
 | _=>rfl
theorem zmz {P:Program} {H:AH} {ρ ρ':Ev} {o:Oper} (h:∀ x ∈ o.op.operands,ρ x = ρ' x):zdP P H ρ o = zdP P H ρ' o:=by
 unfold zdP
 cases ho:o.op with
 | box t x=>simp only [h x (by simp [ho,Op.operands])]
 | buildSlice t len ps =>
  have:(ps.toList.map fun x=>(x.1,ρ x.2)) = ps.toList.map fun x=>(x.1,ρ' x.2):=List.map_congr_left fun x hx=>by
   rw [h x.2 (by simp [ho,Op.operands]; exact ⟨x.1,by simpa using hx⟩)]
  simp only [this]
 | makeMap t r=>cases r <;> rfl
 | makeSlice t l c=>simp only [h l (by simp [ho,Op.operands]),h c (by simp [ho,Op.operands])]
 | range t x=>simp only [h x (by simp [ho,Op.operands])]
 | convert s d x=>simp only [h x (by simp [ho,Op.operands])]
 | _=>rfl
theorem zjl {tm tm':T Value} {ops:Array Oper} {o:Oper} (h:∀ s ∈ looks ops o,ZB tm s = ZB tm' s):∀ x ∈ o.op.operands,aev tm x = aev tm' x:=by
 intro x hx
 cases x with
 | tmp t =>
  refine h t ?_
  unfold looks
  rw [List.mem_append]
  left
  rw [List.mem_filterMap]
  exact ⟨.tmp t,by simpa using hx,rfl⟩
 | _=>rfl
theorem ziB {tm tm':T Value} {ops:Array Oper} {o:Oper} (h:∀ s ∈ looks ops o,ZB tm s = ZB tm' s):Region.wanted o (qh ops tm) = Region.wanted o (qh ops tm'):=by
 unfold Region.wanted
 cases hg:o.guard with
 | none=>rfl
 | some gw =>
  obtain ⟨g,want⟩:=gw
  simp only [qh]
  cases hd:(ops[g]?).bind (·.dst) with
  | none=>rfl
  | some d =>
   simp only
   rw [h d (by unfold looks; rw [List.mem_append]; right; rw [hg]; simp [hd])]
theorem zdB {P:Program} {H:AH} {tm tm':T Value} {ops:Array Oper} {o:Oper} (h:∀ s ∈ looks ops o,ZB tm s = ZB tm' s):qZ P H ops tm o = qZ P H ops tm' o:=by
 unfold qZ
 rw [ziB h,zmy (zjl h),zmz (zjl h)]
theorem zoG {P:Program} {H:AH} {tm:T Value} {ops:Array Oper} {o:Oper} (h:qZ P H ops tm o ≠ .eff):zkz ops o = false:=by
 unfold qZ at h
 cases hp:zkz ops o with
 | false=>rfl
 | true=>rw [hp] at h; exact absurd rfl h
theorem zvp {L:Lam} {w:World} {p:Pl} {ob ob':AObj} (h:oeq ob' ob = true) (k:Y7 L w p ob):Y7 L w p ob':=by
 unfold oeq at h
 split at h
 ·rename_i n t ty op fz n' t' ty' op' fz'
  simp only [zyL] at h
  obtain ⟨⟨⟨⟨⟨h1,h2⟩,h3⟩,h4⟩,h5⟩,h6⟩:=h
  have h1:n = n':=zyM h1
  have h2:ty = ty':=zyM h2
  have h4:fz.1 = fz'.1:=zyM h4
  have h5:fz.2 = fz'.2:=zyM h5
  have h45:fz = fz':=by
   obtain ⟨a,b⟩:=fz; obtain ⟨c,d⟩:=fz'
   simp only at h4 h5; rw [h4,h5]
  have h3:op = op':=by
   cases op <;> cases op' <;> first | rfl | (cases h3; done) | (rw [zyM h3])
  subst h1; subst h2; subst h3; subst h45
  obtain ⟨cur,fr,q1,q2,q3,q4⟩:=k
  refine ⟨cur,fr,q1,q2,q3,fun i hi=>?_⟩
  obtain ⟨v,x,r1,r2,r3,r4⟩:=q4 i hi
  refine ⟨v,x,?_,r2,r3,r4⟩
  unfold zs0 at h6
  split at h6
  ·rename_i a b ha hb
   have:=QL (fun x y=>zhc) h6
   subst this
   obtain ⟨_,a2⟩:=T.row_spec n 0 a ha
   obtain ⟨_,b2⟩:=T.row_spec n 0 a hb
   have e1:=a2 i hi
   have e2:=b2 i hi
   rw [Nat.zero_add] at e1 e2
   rw [e1,<- e2]; exact r1
  ·cases h6
 ·have:_ = _:=zyM h
  subst this
  exact k
 ·cases h
end Go.Run
