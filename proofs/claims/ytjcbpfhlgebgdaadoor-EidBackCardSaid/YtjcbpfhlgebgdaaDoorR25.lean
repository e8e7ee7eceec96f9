import Derived.Test.YtjcbpfhlgebgdaaDoorR24
noncomputable section
namespace Go.Run
open Go.RowKit
def toF (c:Cfg) (todo:List Item):Out:=.go [⟨{ c.fr with todo:=todo },c.cs,c.H⟩]
def drSkip (c:Cfg) (d:Dr) (i:Nat) (o:Oper):Out:=.go [⟨{ c.fr with tm:=putA c.fr.tm o.dst undef,dr:=some { d with left:=d.left.erase i } },c.cs,c.H⟩]
def drVal (c:Cfg) (d:Dr) (i:Nat) (o:Oper) (v:Value):Out:=.go [⟨{ c.fr with tm:=putA c.fr.tm o.dst v,dr:=some { d with left:=d.left.erase i } },c.cs,c.H⟩]
def drLay (P:Program) (c:Cfg) (d:Dr) (i:Nat) (o:Oper) (ob:AObj) (mk:Nat→Value):Out :=
 cond (small c.H.nx && (List.range d.ops.size).all fun p=>(d.left.erase i).contains p || (!(p == i) && effB P c.H d.ops c.fr.tm p) || standsA P (c.H.push ob) d.ops (putA c.fr.tm o.dst (mk c.H.nx)) ((i,c.H.nx) :: d.al) p) (.go [⟨{ c.fr with tm:=putA c.fr.tm o.dst (mk c.H.nx),dr:=some { d with left:=d.left.erase i,al:=(i,c.H.nx) :: d.al } },c.cs,c.H.push ob⟩]) (.go [])
def drDo (P:Program) (F:T Func) (G:Nat) (c:Cfg) (d:Dr) (x:Nat) (o:Oper):Out :=
 cond (Region.wanted o (yieldedA d.ops c.fr.tm)) (match evalOp P F G c.H (aev c.fr.tm) o with
 | .vals l=>cond (l.all fun y=>recheck P y.2 (putA c.fr.tm o.dst y.1) { d with left:=d.left.erase x } x)
   (.go (l.map fun y=>⟨{ c.fr with tm:=putA c.fr.tm o.dst y.1,dr:=some { d with left:=d.left.erase x } },c.cs,y.2⟩)) (.go [])
 | .call f args=>.go (enterA F { c.fr with dr:=some { d with cur:=some x } } c.cs c.H f args)
 | .round l args=>.go (roundA { c.fr with dr:=some { d with cur:=some x } } c.cs c.H l args)) (.go [])
def drEff (P:Program) (F:T Func) (G:Nat) (c:Cfg) (d:Dr):Out :=
 match firstReady d.ops d.left d.left with
 | none=>.go []
 | some (x,o)=>cond (match ancM d.ops with | ms=>d.left.all fun j=>j == x || bitM ms j x) (drDo P F G c d x o) (.go [])
def drGo (P:Program) (F:T Func) (G:Nat) (c:Cfg) (d:Dr):Option (Nat × Oper × Kind)→Out
 | some (i,o,.skip)=>drSkip c d i o
 | some (i,o,.val v)=>drVal c d i o v
 | some (i,o,.lay ob mk)=>drLay P c d i o ob mk
 | some (_,_,.eff)=>.go []
 | none=>drEff P F G c d
def drStep (P:Program) (F:T Func) (G:Nat) (c:Cfg) (d:Dr):Out :=
 match d.left with
 | []=>.go [⟨{ c.fr with dr:=none },c.cs,c.H⟩]
 | _=>drGo P F G c d (firstQuick P c.H c.fr.tm d.ops d.left d.left)
def leaveF (P:Program) (G:Nat) (c:Cfg) (jump:Option Code):Out :=
 match c.fr.rnd with
 | none=>.go [⟨{ c.fr with ret:=true },c.cs,c.H⟩]
 | some l=>.go (endRoundA P G c l jump)
def condF (c:Cfg) (x:Operand) (a b:Code) (k:List Item):Out :=
 match aev c.fr.tm x with
 | .bool t=>cond (match x with | .tmp _=>true | .const _=>true | _=>false) (toF c (.code (cond t a b) :: k)) (.go [])
 | _=>.go []
def exitF (P:Program) (G:Nat) (c:Cfg) (id:Nat) (k:List Item):Out :=
 match exitTo id k with
 | some k'=>toF c k'
 | none=>(match c.fr.rnd with
  | some l=>.go (endRoundA P G c l (some (.exit id)))
  | none=>.go [])
def gotoF (c:Cfg) (l:Nat) (k:List Item):Out :=
 match gotoIn l k with
 | some k'=>toF c k'
 | none=>.go []
def endF (G:Nat) (c:Cfg) (l:Nat) (k:List Item):Out :=
 match c.H.get l with
 | some (.loop st pend fn nt tm params assign body d)=>(match st with
  | .busy=>.go []
  | _=>cond (Nat.ble G l && small l) (.go [⟨{ c.fr with todo:=pendK pend k },c.cs,c.H.set l (.loop .exhausted pend fn nt tm params assign body d)⟩]) (.go []))
 | _=>.go []
def beginF (G:Nat) (c:Cfg) (k:List Item):Out :=
 match c.fr.rnd with
 | some l=>(match c.H.get l with
  | some (.loop .ready pend fn nt tm params assign body d)=>cond (Nat.ble G l && small l) (.go [⟨{ c.fr with todo:=k },c.cs,c.H.set l (.loop .busy pend fn nt tm params assign body d)⟩]) (.go [])
  | _=>.go [])
 | none=>.go []
def enterR (G:Nat) (c:Cfg) (ops:Array Oper) (k:List Item):Out :=
 cond (regOK G c.fr.nt ops) (.go [⟨{ c.fr with todo:=k,dr:=some { ops:=ops,left:=List.range ops.size,al:=[],cur:=none } },c.cs,c.H⟩]) (.go [])
def opVals (c:Cfg) (o:Oper) (ops:Array Oper) (rest:List Nat) (k:List Item) (l:List (Value × AH)):Out:=.go (l.map fun y=>⟨{ c.fr with tm:=putA c.fr.tm o.dst y.1,todo:=.inRegion ops rest :: k },c.cs,y.2⟩)
def opGo (F:T Func) (c:Cfg) (o:Oper) (ops:Array Oper) (rest:List Nat) (k:List Item):XR→Out
 | .vals l=>opVals c o ops rest k l
 | .call f args=>.go (enterA F c.fr c.cs c.H f args)
 | .round l args=>.go (roundA c.fr c.cs c.H l args)
def opSkip (c:Cfg) (o:Oper) (ops:Array Oper) (rest:List Nat) (k:List Item):Out:=.go [⟨{ c.fr with tm:=putA c.fr.tm o.dst undef,todo:=.inRegion ops rest :: k },c.cs,c.H⟩]
def notDefer (o:Oper):Bool:=match o.op with | .defer _=>false | _=>true
def opStep (P:Program) (F:T Func) (G:Nat) (c:Cfg) (ops:Array Oper) (i:Nat) (rest:List Nat) (k:List Item):Out :=
 match ops[i]? with
 | none=>.go []
 | some o=>cond (isDfr o) (dfrOut G c o ops rest k) <| cond (dstOKA c.fr.nt o && opsOK G o && notDefer o)
  (cond (Region.wanted o (yieldedA ops c.fr.tm)) (opGo F c o ops rest k (evalOp P F G c.H (aev c.fr.tm) o)) (opSkip c o ops rest k)) (.go [])
def todoF (P:Program) (F:T Func) (G:Nat) (c:Cfg):Out :=
 match c.fr.todo with
 | []=>leaveF P G c none
 | .code .ret :: _=>leaveF P G c (some .ret)
 | .code (.rangeFunc g ps assign body) :: k=>.go (enterLoopA F c g ps assign body k)
 | .endRangeFunc l :: k=>endF G c l k
 | .beginRound :: k=>beginF G c k
 | .code .skip :: k | .code (.label _) :: k | .inBlock _ :: k | .inScope _ :: k=>toF c k
 | .code (.seq a b) :: k=>toF c (.code a :: .code b :: k)
 | .code (.cond x a b) :: k=>condF c x a b k
 | .code (.block id b) :: k=>toF c (.code b :: .inBlock id :: k)
 | .code (.loop b) :: k | .inLoop b :: k=>toF c (.code b :: .inLoop b :: k)
 | .code (.scope b) :: k=>toF c (.code b :: .inScope b :: k)
 | .code (.exit id) :: k=>exitF P G c id k
 | .code (.goto l) :: k=>gotoF c l k
 | .code (.region _ ops false) :: k=>toF c (.inRegion ops (List.range ops.size) :: k)
 | .code (.region _ ops true) :: k=>enterR G c ops k
 | .inRegion _ [] :: k=>toF c k
 | .inRegion ops (i :: rest) :: k=>opStep P F G c ops i rest k
 | _=>.go []
def arunF (P:Program) (F:T Func) (G:Nat) (c:Cfg):Out :=
 match c.fr.dr with
 | some d=>drStep P F G c d
 | none=>todoF P F G c
theorem arunF_eq (P:Program) (F:T Func) (G:Nat) (c:Cfg):arunF P F G c = arun P F G c:=by
 obtain ⟨⟨fn,nt,tm,todo,dr,df,ret,rnd,lo,dfd⟩,cs,H⟩:=c
 cases dr with
 | some d=>rfl
 | none=>rfl
def retF (P:Program) (F:T Func) (G:Nat) (c:Cfg):Out :=
 match c.fr.defers with
 | .coll b :: ds=>(match c.H.get b with
  | some (.dfr true)=>cond (Nat.ble G b && small b) (.go [⟨{ c.fr with defers:=ds },c.cs,c.H.set b (.dfr false)⟩]) (.go [])
  | _=>.go [])
 | .clo f args cap :: ds=>.go (enterD F { c.fr with defers:=ds } c.cs c.H f (args++cap))
 | []=>(match F.get c.fr.fn with
  | some fn=>(match resA P c.H c.fr.tm fn.results.toList with
   | some v=>(match c.cs with
    | []=>cond c.fr.dfd (.go []) (.done v c.H)
    | k :: cs=>cond c.fr.dfd (cond k.ret (.go [⟨k,cs,c.H⟩]) (.go [])) (cond k.ret (.go []) (.go (finishA P k cs c.H v))))
   | none=>.go [])
  | none=>.go [])
def astepF (P:Program) (F:T Func) (G:Nat) (c:Cfg):Out :=
 match c.fr.ret with
 | true=>retF P F G c
 | false=>.go (outL (arunF P F G c))
theorem astepF_eq (P:Program) (F:T Func) (G:Nat) (c:Cfg):astepF P F G c = astep P F G c:=by
 obtain ⟨⟨fn,nt,tm,todo,dr,df,ret,rnd,lo,dfd⟩,cs,H⟩:=c
 cases ret with
 | true=>rfl
 | false =>
  unfold astepF
  simp only
  rw [arunF_eq]
  rfl
def runF (P:Program) (F:T Func) (G:Nat) (test:Value→AH→Bool):Nat→Cfg→Bool
 | 0,_=>false
 | n + 1,c=>match astepF P F G c with
  | .done v H=>test v H
  | .go [c']=>runF P F G test n c'
  | .go l=>!l.isEmpty && l.all (runF P F G test n)
theorem runF_run (P:Program) (F:T Func) (G:Nat) (test:Value→AH→Bool):∀ (n:Nat) (c:Cfg),runF P F G test n c = runA P F G test n c
 | 0,_=>rfl
 | n + 1,c=>by
  have ih:runF P F G test n = runA P F G test n:=funext (runF_run P F G test n)
  unfold runF runA
  rw [astepF_eq]
  cases astep P F G c with
  | done v H=>rfl
  | go l =>
   match l with
   | []=>rfl
   | [c']=>simp [ih]
   | a :: b :: l=>simp only [ih]
end Go.Run
