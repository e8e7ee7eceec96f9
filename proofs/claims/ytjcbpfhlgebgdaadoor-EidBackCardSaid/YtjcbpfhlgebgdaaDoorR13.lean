import Derived.Test.YtjcbpfhlgebgdaaDoorRW
noncomputable section
namespace Go.Run
open Go.RowKit
def aev (tm:T Value):Ev
 | .tmp s=>tget tm s
 | .const v=>v
 | .global g=>.pointer (some ⟨g,0,none⟩)
 | .func f=>.func (.func f) #[] #[]
def opsOK (G:Nat) (o:Oper):Bool:=o.op.operands.toList.all fun
 | .const v=>flat v
 | .global g=>Nat.blt (g + 1) G
 | _=>true
inductive XR where
 | vals (l:List (Value × AH))
 | call (f:FuncId) (args:List Value)
 | round (l:Nat) (args:List Value)
def methodA (P:Program) (H:AH) (t:TypeId) (v:Value) (name:String):Option (FuncId × Value) :=
 match P.info? t with
 | some ti=>match ti.methods.find? (·.name == name) with
  | some m=>cond m.path.isEmpty (match m.func,P.underlying t with
   | some (f,true),some (.pointer _)=>some (f,v)
   | some (f,false),some (.pointer e)=>(match loadA P H e v with
    | some r=>some (f,r)
    | none=>none)
   | some (f,false),some _=>some (f,v)
   | _,_=>none) none
  | none=>none
 | none=>none
def externV (f:FuncId) (args:Array Value):Sem Value:=do
 match ← callFunc f args with
 | .value v=>pure v
 | _ => stuck "no value"
def noEscB (P:Program) (f:FuncId):Bool:=match P.funcs[f]? with
 | some fn => fn.body.isNone && fn.name == "internal/abi.NoEscape" && fn.origin == ""
 | none=>false
def noEscA (P:Program) (H:AH) (f:FuncId):List Value→XR
 | [x]=>cond (noEscB P f) (.vals [(x,H)]) (.vals [])
 | _=>.vals []
def callA (P:Program) (H:AH) (F:T Func) (f:FuncId) (args:List Value):XR :=
 match F.get f with
 | some fn=>cond (Nat.ble args.length fn.ntmps && small fn.ntmps) (.call f args) (.vals [])
 | none=>cond (args.all flat) (match pureRun P (externV f args.toArray) with
  | some v=>cond (flat v) (.vals [(v,H)]) (.vals [])
  | none=>.vals []) (noEscA P H f args)
def one1 (H:AH):Option Value→XR
 | some v=>.vals [(v,H)]
 | none=>.vals []
def skip1:Option AH→XR
 | some H=>.vals [(undef,H)]
 | none=>.vals []
def pair1:Option (Value × AH)→XR
 | some x=>.vals [x]
 | none=>.vals []
def intT (P:Program) (t:TypeId):Bool:=match P.underlying t with
 | some (.int _)=>true
 | _=>false
def appendZ (P:Program) (H:AH) (t u:TypeId) (s x:Value):Option (Value × AH) :=
 match elemT P t with
 | some (none,e)=>match P.info? e,x with
  | some i,.int .i64 n=>match i.zero with
   | some z=>cond (intT P u && (match n with | .ofNat _=>true | _=>false) && Nat.blt 0 n.toNat && Nat.beq z.cells.size i.size && Nat.blt 0 i.size && z.cells.toList.all (·.oneCell') && z.cells.toList.all flat && Nat.ble (n.toNat * i.bytes) 140737488355328 && Nat.ble n.toNat 4294967296 && small (n.toNat * i.size) && small H.nx)
    (match s with
    | .slice none 0 0=>some (.slice (some ⟨H.nx,0,none⟩) n.toNat (2 * n.toNat + 1),H.push (.cells (n.toNat * i.size) (T.setRow .nil 0 (Builtin.zeroCells z.cells n.toNat).toList) e (some i.size) (0,0)))
    | _=>none) none
   | none=>none
  | _,_=>none
 | _=>none
def markA (P:Program) (G:Nat) (H:AH) (s d:TypeId) (x:Value):Option (Value × AH) :=
 cond (Nat.beq s d && isBytes P s) (match x with
  | .slice (some ⟨b,o,none⟩) n c=>match H.get b with
   | some (.cells nn tr ty op (0,0))=>cond (Nat.ble G b && small b && Nat.beq o 0) (some (.slice (some ⟨b,o,none⟩) n c,H.set b (.cells nn tr ty op (1,0)))) none
   | _=>none
  | _=>none) none
def clearA (P:Program) (G:Nat) (H:AH) (t:TypeId) (x:Value):Option (Value × AH) :=
 match x with
 | .slice none 0 0=>cond (match elemT P t with | some (none,_)=>true | _=>false) (some (.tuple #[],H)) none
 | .slice (some ⟨b,o,none⟩) n _=>match elemT P t with
  | some (none,e)=>match P.info? e with
   | some i=>match i.zero,H.get b with
    | some z,some (.cells nn tr ty op fz)=>cond (Nat.ble G b && small b && small nn && Nat.blt 0 n && Nat.ble (o + (Builtin.zeroCells z.cells n).toList.length) nn && (Builtin.zeroCells z.cells n).toList.all (·.oneCell') && (Builtin.zeroCells z.cells n).toList.all flat && Nat.ble fz.2 o)
      (some (.tuple #[],H.set b (.cells nn (tr.setRow o (Builtin.zeroCells z.cells n).toList) ty op fz))) none
    | _,_=>none
   | none=>none
  | _=>none
 | _=>none
def evalX (P:Program) (F:T Func) (G:Nat) (H:AH) (ρ:Ev) (o:Oper):XR :=
 match o.op with
 | .convert s d x=>pair1 (markA P G H s d (ρ x))
 | .store t a x=>skip1 (storeA P G H t (ρ a) (ρ x))
 | .mapUpdate t m k v | .insert t m k v=>skip1 (mapPutA P G H t (ρ m) (ρ k) (ρ v))
 | .mapEntry t m k=>pair1 (mapEntryA P G H t (ρ m) (ρ k))
 | .entryStore _ m s x=>skip1 (entryStoreA G H (ρ m) (ρ s) (ρ x))
 | .next it s=>.vals (nextA G H (ρ it) s)
 | .entry it=>one1 H (entryA H (ρ it))
 | .call { callee:=.builtin .append,args,argTypes }=>match args.toList,argTypes.toList with
  | [s,x],[t,u]=>(match appendA P G H t u (ρ s) (ρ x) with
   | some y=>.vals [y]
   | none=>pair1 (appendZ P H t u (ρ s) (ρ x)))
  | _,_=>.vals []
 | .call { callee:=.builtin .clear,args,argTypes }=>match args.toList,argTypes.toList with
  | [x],[t]=>pair1 (clearA P G H t (ρ x))
  | _,_=>.vals []
 | .call { callee:=.builtin .unsafeString,args,argTypes }=>match args.toList,argTypes.toList with
  | [p,l],[t,_]=>pair1 (ustrA P G H t (ρ p) (ρ l))
  | _,_=>.vals []
 | .call { callee:=.builtin .delete,args,argTypes }=>match args.toList,argTypes.toList with
  | [m,k],[t,_]=>skip1 (deleteA P G H t (ρ m) (ρ k))
  | _,_=>.vals []
 | .call { callee:=.value f,args,argTypes:=_ }=>match ρ f with
  | .func (.func g) first captured=>callA P H F g (first.toList++args.toList.map ρ++captured.toList)
  | .func (.yield l) first _=>.round l (first.toList++args.toList.map ρ)
  | _=>.vals []
 | .call { callee:=.invoke r name,args,argTypes:=_ }=>match ρ r with
  | .iface t v=>match methodA P H t v name with
   | some (f,recv)=>callA P H F f (recv :: args.toList.map ρ)
   | none=>.vals []
  | _=>.vals []
 | _=>.vals []
def evalOp (P:Program) (F:T Func) (G:Nat) (H:AH) (ρ:Ev) (o:Oper):XR :=
 match evalQ P H ρ o with
 | some v=>.vals [(v,H)]
 | none=>match evalA P H ρ o with
  | some (ob,mk)=>cond (small H.nx) (.vals [(mk H.nx,H.push ob)]) (.vals [])
  | none=>evalX P F G H ρ o
structure Dr where
 ops:Array Oper
 left:List Nat
 al:List (Nat × Nat)
 cur:Option Nat
inductive DfA where
 | coll (b:Nat)
 | clo (f:FuncId) (args cap:List Value)
structure AFr where
 fn:FuncId
 nt:Nat
 tm:T Value
 todo:List Item
 dr:Option Dr
 defers:List DfA
 ret:Bool
 rnd:Option Nat
 lo:Nat
 dfd:Bool:=false
structure Cfg where
 fr:AFr
 cs:List AFr
 H:AH
inductive Out where
 | go (l:List Cfg)
 | done (v:Value) (H:AH)
def putA (tm:T Value) (d:Option Nat) (v:Value):T Value :=
 match d with
 | some d=>tm.set d v
 | none=>tm
def dstOKA (nt:Nat) (o:Oper):Bool:=match o.dst with
 | some d=>Nat.blt d nt && small d
 | none=>true
def yieldedA (ops:Array Oper) (tm:T Value) (j:Nat):Option Bool :=
 match (ops[j]?).bind (·.dst) with
 | some d=>match tget tm d with
  | .bool b=>some b
  | _=>none
 | none=>none
def ancB (ops:Array Oper):Nat→Nat→Nat→Bool
 | 0,_,_=>false
 | fuel + 1,j,i=>match ops[j]? with
  | some o=>o.after.toList.any fun e=>Region.binds .any e && (e.on == i || ancB ops fuel e.on i)
  | none=>false
def anc (ops:Array Oper) (j i:Nat):Bool:=ancB ops ops.size j i
theorem ancB_mono {ops:Array Oper}:∀ {n m:Nat},n ≤ m→∀ {j i:Nat},ancB ops n j i = true→ancB ops m j i = true
 | 0,_,_,j,i,h=>by simp [ancB] at h
 | n + 1,0,hm,_,_,_=>absurd hm (by omega)
 | n + 1,m + 1,hm,j,i,h=>by
  unfold ancB at h ⊢
  split at h
  ·rw [List.any_eq_true] at h ⊢
   obtain ⟨e,he,h2⟩:=h
   refine ⟨e,he,?_⟩
   simp only [Bool.and_eq_true,Bool.or_eq_true] at h2 ⊢
   exact ⟨h2.1,h2.2.imp id fun q=>ancB_mono (by omega) q⟩
  ·cases h
def edgeM (ms:T Nat) (i:Nat) (m:Nat) (e:Edge):Nat:=cond (Region.binds .any e && Nat.blt e.on i) ((m ||| (1 <<< e.on)) ||| (ms.get e.on).getD 0) m
def stepM (ops:Array Oper) (ms:T Nat) (i:Nat):T Nat:=match ops[i]? with
 | some o=>cond (small i) (ms.set i (o.after.toList.foldl (edgeM ms i) 0)) ms
 | none=>ms
def ancM (ops:Array Oper):T Nat:=(List.range ops.size).foldl (stepM ops) .nil
def bitM (ms:T Nat) (j i:Nat):Bool:=Nat.testBit ((ms.get j).getD 0) i
theorem edgeM_spec {ms:T Nat} {i k:Nat}:∀ (es:List Edge) (m:Nat),Nat.testBit (es.foldl (edgeM ms i) m) k = true→Nat.testBit m k = true ∨ ∃ e ∈ es,Region.binds .any e = true∧e.on < i∧(e.on = k ∨ bitM ms e.on k = true)
 | [],m,h=>.inl h
 | e :: es,m,h=>by
  rcases edgeM_spec es _ h with h | ⟨e',he,q⟩
  ·unfold edgeM at h
   cases hc:(Region.binds .any e && Nat.blt e.on i) with
   | false=>rw [hc] at h; exact .inl h
   | true =>
    rw [hc] at h
    simp only [cond_true,Nat.testBit_or,Bool.or_eq_true] at h
    simp only [Bool.and_eq_true] at hc
    have hlt:e.on < i:=by simpa using hc.2
    rcases h with (h | h) | h
    ·exact .inl h
    ·rw [Nat.shiftLeft_eq,Nat.one_mul,Nat.testBit_two_pow] at h
     exact .inr ⟨e,by simp,hc.1,hlt,.inl (by simpa using h)⟩
    ·exact .inr ⟨e,by simp,hc.1,hlt,.inr h⟩
  ·exact .inr ⟨e',by simp [he],q⟩
theorem stepM_spec {ops:Array Oper}:∀ (l:List Nat) (ms:T Nat),(∀ j k,bitM ms j k = true→ancB ops (j + 1) j k = true)→∀ j k,bitM (l.foldl (stepM ops) ms) j k = true→ancB ops (j + 1) j k = true
 | [],_,h=>h
 | i :: l,ms,h=>stepM_spec l _ fun j k hb=>by
  unfold stepM at hb
  split at hb
  ·rename_i o ho
   cases hs:small i with
   | false=>rw [hs] at hb; exact h j k hb
   | true =>
    rw [hs] at hb
    simp only [cond_true] at hb
    by_cases e:j = i
    ·subst e
     unfold bitM at hb
     rw [T.get_set hs,if_pos rfl] at hb
     rcases edgeM_spec _ _ hb with q | ⟨e,he,h1,h2,h3⟩
     ·simp at q
     ·unfold ancB
      rw [ho]
      rw [List.any_eq_true]
      refine ⟨e,he,?_⟩
      simp only [Bool.and_eq_true,Bool.or_eq_true,beq_iff_eq]
      exact ⟨h1,h3.imp id fun q=>ancB_mono (by omega) (h _ _ q)⟩
    ·unfold bitM at hb
     rw [T.get_set hs,if_neg e] at hb
     exact h j k hb
  ·exact h j k hb
theorem ancM_spec {ops:Array Oper} {j i:Nat} (h:bitM (ancM ops) j i = true):anc ops j i = true:=by
 have h1:=stepM_spec _ _ (fun j k hb=>by simp [bitM,T.get_nil] at hb) j i h
 have hj:j < ops.size:=by
  unfold ancB at h1
  split at h1
  ·rename_i o ho; exact (Array.getElem?_eq_some_iff.1 ho).1
  ·cases h1
 exact ancB_mono (by omega) h1
def depsIn (o:Oper) (left:List Nat):Bool:=o.after.toList.all fun e=>!Region.binds .any e || !left.contains e.on
def looks (ops:Array Oper) (o:Oper):List Nat :=
 (o.op.operands.toList.filterMap fun | .tmp t=>some t | _=>none)++(match o.guard with
  | some (g,_)=>((ops[g]?).bind (·.dst)).toList
  | none=>[])
def pinO (ops:Array Oper) (o:Oper):Bool:=match o.op with
 | .assign _=>(match o.dst with
  | some d=>ops.toList.any fun o'=>(looks ops o').contains d
  | none=>false)
 | _=>false
def regOKs (G nt:Nat) (ops:Array Oper) (an:Nat→Nat→Bool):Bool :=
 (List.range ops.size).all fun i=>match ops[i]? with
  | some o=>opsOK G o && dstOKA nt o && (match o.op with | .defer _=>false | _=>true) && o.after.toList.all (fun e=>!Region.binds .any e || Nat.blt e.on i) &&
   (List.range ops.size).all fun j=>match ops[j]? with
    | some o'=>match o'.dst with
     | some d=>(i == j || !(o.dst == some d)) && (!(looks ops o).contains d || (!(i == j) && (an i j || (pinO ops o' && an j i))))
     | none=>true
    | none=>true
  | none=>true
def regOK (G nt:Nat) (ops:Array Oper):Bool :=
 match ancM ops with
 | ms=>regOKs G nt ops (bitM ms)
inductive Kind where
 | skip
 | val (v:Value)
 | lay (ob:AObj) (mk:Nat→Value)
 | eff
def kindOf (P:Program) (H:AH) (ops:Array Oper) (tm:T Value) (o:Oper):Kind :=
 cond (pinO ops o) .eff (cond (Region.wanted o (yieldedA ops tm)) (match evalQ P H (aev tm) o with
  | some v=>.val v
  | none=>match evalA P H (aev tm) o with
   | some (ob,mk)=>.lay ob mk
   | none=>.eff) .skip)
def rowsEq (t t':T Value) (n:Nat):Bool:=match t.row 0 n,t'.row 0 n with
 | some a,some b=>allEq veq a b
 | _,_=>false
def oeq:AObj→AObj→Bool
 | .cells n t ty op fz,.cells n' t' ty' op' fz'=>Nat.beq n n' && Nat.beq ty ty' && (match op,op' with | none,none=>true | some a,some b=>Nat.beq a b | _,_=>false) && Nat.beq fz.1 fz'.1 && Nat.beq fz.2 fz'.2 && rowsEq t t' n
 | .map [] c,.map [] c'=>Nat.beq c c'
 | _,_=>false
def standsA (P:Program) (H:AH) (ops:Array Oper) (tm:T Value) (al:List (Nat × Nat)) (p:Nat):Bool :=
 match ops[p]? with
 | none=>true
 | some o=>match kindOf P H ops tm o with
  | .skip=>(match o.dst with | some d=>veq (tget tm d) undef | none=>true)
  | .val v=>(match o.dst with | some d=>veq (tget tm d) v | none=>true)
  | .lay ob mk=>(match al.lookup p with
   | some b=>(match H.get b with | some ob'=>oeq ob' ob | none=>false) && (match o.dst with | some d=>veq (tget tm d) (mk b) | none=>true)
   | none=>false)
  | .eff=>false
def effB (P:Program) (H:AH) (ops:Array Oper) (tm:T Value) (p:Nat):Bool :=
 match ops[p]? with
 | none=>false
 | some o=>match kindOf P H ops tm o with
  | .eff=>true
  | _=>false
def recheck (P:Program) (H:AH) (tm:T Value) (d:Dr) (x:Nat):Bool :=
 match ancM d.ops with
 | ms=>(List.range d.ops.size).all fun p=>d.left.contains p || p == x || bitM ms x p || standsA P H d.ops tm d.al p
def firstQuick (P:Program) (H:AH) (tm:T Value) (ops:Array Oper) (all:List Nat):List Nat→Option (Nat × Oper × Kind)
 | []=>none
 | i :: rest=>match ops[i]? with
  | none=>firstQuick P H tm ops all rest
  | some o=>cond (depsIn o all) (match kindOf P H ops tm o with
   | .eff=>firstQuick P H tm ops all rest
   | k=>some (i,o,k)) (firstQuick P H tm ops all rest)
def firstReady (ops:Array Oper) (all:List Nat):List Nat→Option (Nat × Oper)
 | []=>none
 | i :: rest=>match ops[i]? with
  | none=>firstReady ops all rest
  | some o=>cond (depsIn o all) (some (i,o)) (firstReady ops all rest)
def enterA (F:T Func) (c:AFr) (cs:List AFr) (H:AH) (f:FuncId) (args:List Value):List Cfg :=
 match F.get f with
 | some fn=>match fn.body with
  | some body=>[⟨{ fn:=f,nt:=fn.ntmps,tm:=T.setRow .nil 0 args,todo:=[.code body],dr:=none,defers:=[],ret:=false,rnd:=none,lo:=H.nx },c :: cs,H⟩]
  | none=>[]
 | none=>[]
def roundA (c:AFr) (cs:List AFr) (H:AH) (l:Nat) (args:List Value):List Cfg :=
 match H.get l with
 | some (.loop _ _ fn nt tm params assign body _)=>cond (Nat.beq args.length params.size && params.toList.all (fun t=>Nat.blt t nt && small t))
  [⟨{ fn:=fn,nt:=nt,tm:=(params.toList.zip args).foldl (fun tm x=>tm.set x.1 x.2) tm,todo:=[.code assign,.beginRound,.code body],dr:=none,defers:=[],ret:=false,rnd:=some l,lo:=H.nx },c :: cs,H⟩] []
 | _=>[]
def finishA (P:Program) (c:AFr) (cs:List AFr) (H:AH) (v:Value):List Cfg :=
 match c.dr with
 | some d=>match d.cur with
  | some x=>match d.ops[x]? with
   | some o =>
    let tm:=putA c.tm o.dst v
    let d':Dr:={ d with left:=d.left.erase x,cur:=none }
    cond (dstOKA c.nt o && recheck P H tm d' x) [⟨{ c with tm:=tm,dr:=some d' },cs,H⟩] []
   | none=>[]
  | none=>[]
 | none=>match c.todo with
  | .inRegion ops (i :: rest) :: k=>match ops[i]? with
   | some o=>cond (dstOKA c.nt o) [⟨{ c with tm:=putA c.tm o.dst v,todo:=.inRegion ops rest :: k },cs,H⟩] []
   | none=>[]
  | .inRangeFunc l :: k=>[⟨{ c with todo:=.endRangeFunc l :: k },cs,H⟩]
  | _=>[]
def resOneA (P:Program) (H:AH) (tm:T Value):ResultVar→Option Value
 | .tmp t=>some (tget tm t)
 | .cell a t=>loadA P H t (tget tm a)
def resListA (P:Program) (H:AH) (tm:T Value):List ResultVar→Option (List Value)
 | []=>some []
 | r :: rs=>match resOneA P H tm r,resListA P H tm rs with
  | some v,some vs=>some (v :: vs)
  | _,_=>none
def resA (P:Program) (H:AH) (tm:T Value) (rs:List ResultVar):Option Value :=
 match resListA P H tm rs with
 | some [v]=>some v
 | some vs=>some (.tuple vs.toArray)
 | none=>none
def endRoundA (P:Program) (G:Nat) (c:Cfg) (l:Nat) (jump:Option Code):List Cfg :=
 match c.cs with
 | k :: cs=>match c.H.get l with
  | some (.loop _ _ fn nt tm params assign body d)=>cond (Nat.ble G l && small l && !k.ret && !c.fr.dfd)
   (finishA P k cs (c.H.set l (.loop (match jump with | none=>.ready | some _=>.done) jump fn nt tm params assign body d)) (.bool (match jump with | none=>true | some _=>false))) []
  | _=>[]
 | []=>[]
def rangeIn (F:T Func) (c:AFr) (cs:List AFr) (H:AH) (f:FuncId) (args:List Value):List Cfg :=
 match F.get f with
 | some fn=>cond (Nat.ble args.length fn.ntmps && small fn.ntmps) (enterA F c cs H f args) []
 | none=>[]
def enterLoopA (F:T Func) (c:Cfg) (g:Operand) (ps:Array Tmp) (assign body:Code) (k:List Item):List Cfg :=
 cond (match g with | .tmp _=>true | .func _=>true | _=>false) (match aev c.fr.tm g with
 | .func (.func f) first captured =>
  match c.fr.rnd with
  | none=>cond (small c.H.nx && small (c.H.nx + 1))
    (rangeIn F { c.fr with todo:=.inRangeFunc (c.H.nx + 1) :: k,defers:=.coll c.H.nx :: c.fr.defers } c.cs ((c.H.push (.dfr true)).push (.loop .ready none c.fr.fn c.fr.nt c.fr.tm ps assign body c.H.nx)) f (first.toList++[.func (.yield (c.H.nx + 1)) #[] #[]]++captured.toList)) []
  | some lr=>match c.H.get lr with
   | some (.loop _ _ _ _ _ _ _ _ d)=>cond (small c.H.nx)
    (rangeIn F { c.fr with todo:=.inRangeFunc c.H.nx :: k } c.cs (c.H.push (.loop .ready none c.fr.fn c.fr.nt c.fr.tm ps assign body d)) f (first.toList++[.func (.yield c.H.nx) #[] #[]]++captured.toList)) []
   | _=>[]
 | _=>[]) []
def pendK (pend:Option Code) (k:List Item):List Item :=
 match pend with
 | some j=>.code j :: k
 | none=>k
def isDfr (o:Oper):Bool:=match o.op with
 | .defer _=>true
 | .call { callee:=.builtin .recover,args:=_,argTypes:=_ }=>true
 | _=>false
def canRec (c:Cfg):Bool:=match c.fr.dfd with
 | false=>true
 | true=>(match c.cs with
  | k :: _=>k.ret
  | []=>false)
def dfrOut (G:Nat) (c:Cfg) (o:Oper) (ops:Array Oper) (rest:List Nat) (k:List Item):Out :=
 cond (dstOKA c.fr.nt o && opsOK G o && Region.wanted o (yieldedA ops c.fr.tm)) (match c.fr.rnd with
  | some _=>.go []
  | none=>(match o.op with
   | .defer cl=>(match cl.callee with
    | .value f=>(match aev c.fr.tm f with
     | .func (.func g) first captured=>.go [⟨{ c.fr with tm:=putA c.fr.tm o.dst undef,todo:=.inRegion ops rest :: k,defers:=.clo g (first.toList++cl.args.toList.map (aev c.fr.tm)) captured.toList :: c.fr.defers },c.cs,c.H⟩]
     | _=>.go [])
    | _=>.go [])
   | .call { callee:=.builtin .recover,args:=_,argTypes:=_ }=>cond (canRec c) (.go [⟨{ c.fr with tm:=putA c.fr.tm o.dst .nilIface,todo:=.inRegion ops rest :: k },c.cs,c.H⟩]) (.go [])
   | _=>.go [])) (.go [])
def enterD (F:T Func) (c:AFr) (cs:List AFr) (H:AH) (f:FuncId) (args:List Value):List Cfg :=
 match F.get f with
 | some fn=>cond (Nat.ble args.length fn.ntmps && small fn.ntmps) (match fn.body with
  | some body=>[⟨{ fn:=f,nt:=fn.ntmps,tm:=T.setRow .nil 0 args,todo:=[.code body],dr:=none,defers:=[],ret:=false,rnd:=none,lo:=H.nx,dfd:=true },c :: cs,H⟩]
  | none=>[]) []
 | none=>[]
def arun (P:Program) (F:T Func) (G:Nat) (c:Cfg):Out :=
 let fr:=c.fr
 let one (fr:AFr):Out:=.go [⟨fr,c.cs,c.H⟩]
 let to (todo:List Item):Out:=one { fr with todo:=todo }
 match fr.dr with
  | some d=>match d.left with
   | []=>one { fr with dr:=none }
   | _=>match firstQuick P c.H fr.tm d.ops d.left d.left with
    | some (i,o,.skip)=>one { fr with tm:=putA fr.tm o.dst undef,dr:=some { d with left:=d.left.erase i } }
    | some (i,o,.val v)=>one { fr with tm:=putA fr.tm o.dst v,dr:=some { d with left:=d.left.erase i } }
    | some (i,o,.lay ob mk)=>cond (small c.H.nx && (List.range d.ops.size).all fun p=>(d.left.erase i).contains p || (!(p == i) && effB P c.H d.ops fr.tm p) || standsA P (c.H.push ob) d.ops (putA fr.tm o.dst (mk c.H.nx)) ((i,c.H.nx) :: d.al) p) (.go [⟨{ fr with tm:=putA fr.tm o.dst (mk c.H.nx),dr:=some { d with left:=d.left.erase i,al:=(i,c.H.nx) :: d.al } },c.cs,c.H.push ob⟩]) (.go [])
    | some (_,_,.eff)=>.go []
    | none=>match firstReady d.ops d.left d.left with
     | none=>.go []
     | some (x,o)=>cond (match ancM d.ops with | ms=>d.left.all fun j=>j == x || bitM ms j x)
      (cond (Region.wanted o (yieldedA d.ops fr.tm)) (match evalOp P F G c.H (aev fr.tm) o with
           | .vals l=>cond (l.all fun y=>recheck P y.2 (putA fr.tm o.dst y.1) { d with left:=d.left.erase x } x)
              (.go (l.map fun y=>⟨{ fr with tm:=putA fr.tm o.dst y.1,dr:=some { d with left:=d.left.erase x } },c.cs,y.2⟩)) (.go [])
           | .call f args=>.go (enterA F { fr with dr:=some { d with cur:=some x } } c.cs c.H f args)
           | .round l args=>.go (roundA { fr with dr:=some { d with cur:=some x } } c.cs c.H l args)) (.go [])) (.go [])
  | none=>match fr.todo with
   | []=>(match fr.rnd with
    | none=>one { fr with ret:=true }
    | some l=>.go (endRoundA P G c l none))
   | .code .ret :: _=>(match fr.rnd with
    | none=>one { fr with ret:=true }
    | some l=>.go (endRoundA P G c l (some .ret)))
   | .code (.rangeFunc g ps assign body) :: k=>.go (enterLoopA F c g ps assign body k)
   | .endRangeFunc l :: k=>(match c.H.get l with
    | some (.loop st pend fn nt tm params assign body d)=>(match st with
     | .busy=>.go []
     | _=>cond (Nat.ble G l && small l) (.go [⟨{ fr with todo:=pendK pend k },c.cs,c.H.set l (.loop .exhausted pend fn nt tm params assign body d)⟩]) (.go []))
    | _=>.go [])
   | .beginRound :: k=>(match fr.rnd with
    | some l=>(match c.H.get l with
     | some (.loop .ready pend fn nt tm params assign body d)=>cond (Nat.ble G l && small l) (.go [⟨{ fr with todo:=k },c.cs,c.H.set l (.loop .busy pend fn nt tm params assign body d)⟩]) (.go [])
     | _=>.go [])
    | none=>.go [])
   | .code .skip :: k | .code (.label _) :: k | .inBlock _ :: k | .inScope _ :: k=>to k
   | .code (.seq a b) :: k=>to (.code a :: .code b :: k)
   | .code (.cond x a b) :: k=>(match aev fr.tm x with
    | .bool t=>cond (match x with | .tmp _=>true | .const _=>true | _=>false) (to (.code (cond t a b) :: k)) (.go [])
    | _=>.go [])
   | .code (.block id b) :: k=>to (.code b :: .inBlock id :: k)
   | .code (.loop b) :: k | .inLoop b :: k=>to (.code b :: .inLoop b :: k)
   | .code (.scope b) :: k=>to (.code b :: .inScope b :: k)
   | .code (.exit id) :: k=>(match exitTo id k with
    | some k'=>to k'
    | none=>(match fr.rnd with
     | some l=>.go (endRoundA P G c l (some (.exit id)))
     | none=>.go []))
   | .code (.goto l) :: k=>(match gotoIn l k with
    | some k'=>to k'
    | none=>.go [])
   | .code (.region _ ops false) :: k=>to (.inRegion ops (List.range ops.size) :: k)
   | .code (.region _ ops true) :: k=>cond (regOK G fr.nt ops) (one { fr with todo:=k,dr:=some { ops:=ops,left:=List.range ops.size,al:=[],cur:=none } }) (.go [])
   | .inRegion _ [] :: k=>to k
   | .inRegion ops (i :: rest) :: k=>(match ops[i]? with
    | none=>.go []
    | some o=>cond (isDfr o) (dfrOut G c o ops rest k) <| cond (dstOKA fr.nt o && opsOK G o && (match o.op with | .defer _=>false | _=>true))
     (cond (Region.wanted o (yieldedA ops fr.tm))
      (match evalOp P F G c.H (aev fr.tm) o with
            | .vals l=>.go (l.map fun y=>⟨{ fr with tm:=putA fr.tm o.dst y.1,todo:=.inRegion ops rest :: k },c.cs,y.2⟩)
            | .call f args=>.go (enterA F fr c.cs c.H f args)
            | .round l args=>.go (roundA fr c.cs c.H l args))
      (one { fr with tm:=putA fr.tm o.dst undef,todo:=.inRegion ops rest :: k })) (.go []))
   | _=>.go []
def outL:Out→List Cfg
 | .go l=>l
 | .done _ _=>[]
def astep (P:Program) (F:T Func) (G:Nat) (c:Cfg):Out :=
 let fr:=c.fr
 match fr.ret with
 | true=>match fr.defers with
  | .coll b :: ds=>match c.H.get b with
   | some (.dfr true)=>cond (Nat.ble G b && small b) (.go [⟨{ fr with defers:=ds },c.cs,c.H.set b (.dfr false)⟩]) (.go [])
   | _=>.go []
  | .clo f args cap :: ds=>.go (enterD F { fr with defers:=ds } c.cs c.H f (args++cap))
  | []=>match F.get fr.fn with
   | some fn=>match resA P c.H fr.tm fn.results.toList with
    | some v=>match c.cs with
     | []=>cond fr.dfd (.go []) (.done v c.H)
     | k :: cs=>cond fr.dfd (cond k.ret (.go [⟨k,cs,c.H⟩]) (.go [])) (cond k.ret (.go []) (.go (finishA P k cs c.H v)))
    | none=>.go []
   | none=>.go []
 | false=>.go (outL (arun P F G c))
theorem arun_of {P:Program} {F:T Func} {G:Nat} {c:Cfg} {l:List Cfg} (hret:c.fr.ret = false) (h:astep P F G c = .go l) (hne:l ≠ []):arun P F G c = .go l:=by
 unfold astep at h
 simp only [hret,Out.go.injEq] at h
 cases ha:arun P F G c with
 | go l'=>rw [ha] at h; rw [← h]; rfl
 | done v H=>rw [ha] at h; exact absurd h.symm hne
def runA (P:Program) (F:T Func) (G:Nat) (test:Value→AH→Bool):Nat→Cfg→Bool
 | 0,_=>false
 | n + 1,c=>match astep P F G c with
  | .done v H=>test v H
  | .go l=>!l.isEmpty && l.all (runA P F G test n)
end Go.Run
