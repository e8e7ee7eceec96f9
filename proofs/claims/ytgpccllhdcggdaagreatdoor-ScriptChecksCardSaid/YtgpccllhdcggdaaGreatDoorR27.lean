import Derived.Test.YtgpccllhdcggdaaGreatDoorR24
import Derived.OpenShut
import Derived.LaidMore
open Option.some renaming injEq -> zyO
set_option linter.unusedSimpArgs false
set_option linter.unusedVariables false
noncomputable section
namespace Go.Run
open Go.RowKit
def toF (c:Cfg) (todo:List Item):Out:=.go [⟨{ c.fr with todo:=todo },c.cs,c.H⟩]
def zwF (c:Cfg) (d:Dr) (i:Nat) (o:Oper):Out:=.go [⟨{ c.fr with tm:=putA c.fr.tm o.dst undef,dr:=some { d with left:=d.left.erase i } },c.cs,c.H⟩]
def zxC (c:Cfg) (d:Dr) (i:Nat) (o:Oper) (v:Value):Out:=.go [⟨{ c.fr with tm:=putA c.fr.tm o.dst v,dr:=some { d with left:=d.left.erase i } },c.cs,c.H⟩]
def zxD (P:Program) (c:Cfg) (d:Dr) (i:Nat) (o:Oper) (ob:AObj) (mk:Nat->Value):Out :=
 cond (zq c.H.nx && (List.range d.ops.size).all fun p=>(d.left.erase i).contains p || (!(p == i) && zvn P c.H d.ops c.fr.tm p) || zdA P (c.H.push ob) d.ops (putA c.fr.tm o.dst (mk c.H.nx)) ((i,c.H.nx) :: d.al) p) (.go [⟨{ c.fr with tm:=putA c.fr.tm o.dst (mk c.H.nx),dr:=some { d with left:=d.left.erase i,al:=(i,c.H.nx) :: d.al } },c.cs,c.H.push ob⟩]) (.go [])
def zx5 (P:Program) (F:T Func) (G:Nat) (c:Cfg) (d:Dr) (x:Nat) (o:Oper):Out :=
 cond (Region.wanted o (qh d.ops c.fr.tm)) (match zbK P F G c.H (aev c.fr.tm) o with
 | .vals l=>cond (l.all fun y=>zcf P y.2 (putA c.fr.tm o.dst y.1) { d with left:=d.left.erase x } x)
   (.go (l.map fun y=>⟨{ c.fr with tm:=putA c.fr.tm o.dst y.1,dr:=some { d with left:=d.left.erase x } },c.cs,y.2⟩)) (.go [])
 | .call f args=>.go (zbL F { c.fr with dr:=some { d with cur:=some x } } c.cs c.H f args)
 | .round l args=>.go (zev { c.fr with dr:=some { d with cur:=some x } } c.cs c.H l args)) (.go [])
def zxE (P:Program) (F:T Func) (G:Nat) (c:Cfg) (d:Dr):Out :=
 match Z8 d.ops d.left d.left with
 | none=>.go []
 | some (x,o)=>cond (match zsY d.ops with | ms=>d.left.all fun j=>j == x || zg2 ms j x) (zx5 P F G c d x o) (.go [])
def zx6 (P:Program) (F:T Func) (G:Nat) (c:Cfg) (d:Dr):Option (Nat × Oper × Kind)->Out
 | some (i,o,.skip)=>zwF c d i o
 | some (i,o,.val v)=>zxC c d i o v
 | some (i,o,.lay ob mk)=>zxD P c d i o ob mk
 | some (_,_,.eff)=>.go []
 | none=>zxE P F G c d
def zwG (P:Program) (F:T Func) (G:Nat) (c:Cfg) (d:Dr):Out :=
 match d.left with
 | []=>.go [⟨{ c.fr with dr:=none },c.cs,c.H⟩]
 | _=>zx6 P F G c d (Za P c.H c.fr.tm d.ops d.left d.left)
def ztd (P:Program) (G:Nat) (c:Cfg) (jump:Option Code):Out :=
 match c.fr.rnd with
 | none=>.go [⟨{ c.fr with ret:=true },c.cs,c.H⟩]
 | some l=>.go (Zv P G c l jump)
def zxF (c:Cfg) (x:Operand) (a b:Code) (k:List Item):Out :=
 match aev c.fr.tm x with
 | .bool t=>cond (match x with | .tmp _=>true | .const _=>true | _=>false) (toF c (.code (cond t a b) :: k)) (.go [])
 | _=>.go []
def zxG (P:Program) (G:Nat) (c:Cfg) (id:Nat) (k:List Item):Out :=
 match exitTo id k with
 | some k'=>toF c k'
 | none=>(match c.fr.rnd with
  | some l=>.go (Zv P G c l (some (.exit id)))
  | none=>.go [])
def zxH (c:Cfg) (l:Nat) (k:List Item):Out :=
 match gotoIn l k with
 | some k'=>toF c k'
 | none=>.go []
def zx7 (G:Nat) (c:Cfg) (l:Nat) (k:List Item):Out :=
 match c.H.get l with
 | some (.loop st pend fn nt tm params assign body d)=>(match st with
  | .busy=>.go []
  | _=>cond (Nat.ble G l && zq l) (.go [⟨{ c.fr with todo:=zs1 pend k },c.cs,c.H.set l (.loop .exhausted pend fn nt tm params assign body d)⟩]) (.go []))
 | _=>.go []
def zwH (G:Nat) (c:Cfg) (k:List Item):Out :=
 match c.fr.rnd with
 | some l=>(match c.H.get l with
  | some (.loop .ready pend fn nt tm params assign body d)=>cond (Nat.ble G l && zq l) (.go [⟨{ c.fr with todo:=k },c.cs,c.H.set l (.loop .busy pend fn nt tm params assign body d)⟩]) (.go [])
  | _=>.go [])
 | none=>.go []
def zwI (G:Nat) (c:Cfg) (ops:Array Oper) (k:List Item):Out :=
 cond (zmt G c.fr.nt ops) (.go [⟨{ c.fr with todo:=k,dr:=some { ops:=ops,left:=List.range ops.size,al:=[],cur:=none } },c.cs,c.H⟩]) (.go [])
def zwJ (c:Cfg) (o:Oper) (ops:Array Oper) (rest:List Nat) (k:List Item) (l:List (Value × AH)):Out:=.go (l.map fun y=>⟨{ c.fr with tm:=putA c.fr.tm o.dst y.1,todo:=.inRegion ops rest :: k },c.cs,y.2⟩)
def zx8 (F:T Func) (c:Cfg) (o:Oper) (ops:Array Oper) (rest:List Nat) (k:List Item):XR->Out
 | .vals l=>zwJ c o ops rest k l
 | .call f args=>.go (zbL F c.fr c.cs c.H f args)
 | .round l args=>.go (zev c.fr c.cs c.H l args)
def zwK (c:Cfg) (o:Oper) (ops:Array Oper) (rest:List Nat) (k:List Item):Out:=.go [⟨{ c.fr with tm:=putA c.fr.tm o.dst undef,todo:=.inRegion ops rest :: k },c.cs,c.H⟩]
def zte (o:Oper):Bool:=match o.op with | .defer _=>false | _=>true
def zwL (P:Program) (F:T Func) (G:Nat) (c:Cfg) (ops:Array Oper) (i:Nat) (rest:List Nat) (k:List Item):Out :=
 match ops[i]? with
 | none=>.go []
 | some o=>cond (zs2 o) (zkA G c o ops rest k) <| cond (Y4 c.fr.nt o && zfi G o && zte o)
  (cond (Region.wanted o (qh ops c.fr.tm)) (zx8 F c o ops rest k (zbK P F G c.H (aev c.fr.tm) o)) (zwK c o ops rest k)) (.go [])
def zxI (P:Program) (F:T Func) (G:Nat) (c:Cfg):Out :=
 match c.fr.todo with
 | []=>ztd P G c none
 | .code .ret :: _=>ztd P G c (some .ret)
 | .code (.rangeFunc g ps assign body) :: k=>.go (zaP F c g ps assign body k)
 | .endRangeFunc l :: k=>zx7 G c l k
 | .beginRound :: k=>zwH G c k
 | .code .skip :: k | .code (.label _) :: k | .inBlock _ :: k | .inScope _ :: k=>toF c k
 | .code (.seq a b) :: k=>toF c (.code a :: .code b :: k)
 | .code (.cond x a b) :: k=>zxF c x a b k
 | .code (.block id b) :: k=>toF c (.code b :: .inBlock id :: k)
 | .code (.loop b) :: k | .inLoop b :: k=>toF c (.code b :: .inLoop b :: k)
 | .code (.scope b) :: k=>toF c (.code b :: .inScope b :: k)
 | .code (.exit id) :: k=>zxG P G c id k
 | .code (.goto l) :: k=>zxH c l k
 | .code (.region _ ops false) :: k=>toF c (.inRegion ops (List.range ops.size) :: k)
 | .code (.region _ ops true) :: k=>zwI G c ops k
 | .inRegion _ [] :: k=>toF c k
 | .inRegion ops (i :: rest) :: k=>zwL P F G c ops i rest k
 | _=>.go []
def zvX (P:Program) (F:T Func) (G:Nat) (c:Cfg):Out :=
 match c.fr.dr with
 | some d=>zwG P F G c d
 | none=>zxI P F G c
theorem ztf (P:Program) (F:T Func) (G:Nat) (c:Cfg):zvX P F G c = zq9 P F G c:=by
 obtain ⟨⟨fn,nt,tm,todo,dr,df,ret,rnd,lo,dfd⟩,cs,H⟩:=c
 cases dr with
 | some d=>rfl
 | none=>rfl
def zx9 (P:Program) (F:T Func) (G:Nat) (c:Cfg):Out :=
 match c.fr.defers with
 | .coll b :: ds=>(match c.H.get b with
  | some (.dfr true)=>cond (Nat.ble G b && zq b) (.go [⟨{ c.fr with defers:=ds },c.cs,c.H.set b (.dfr false)⟩]) (.go [])
  | _=>.go [])
 | .clo f args cap :: ds=>.go (zoy F { c.fr with defers:=ds } c.cs c.H f (args++cap))
 | []=>(match F.get c.fr.fn with
  | some fn=>(match zvo P c.H c.fr.tm fn.results.toList with
   | some v=>(match c.cs with
    | []=>cond c.fr.dfd (.go []) (.done v c.H)
    | k :: cs=>cond c.fr.dfd (cond k.ret (.go [⟨k,cs,c.H⟩]) (.go [])) (cond k.ret (.go []) (.go (Q0 P k cs c.H v))))
   | none=>.go [])
  | none=>.go [])
def zkG (P:Program) (F:T Func) (G:Nat) (c:Cfg):Out :=
 match c.fr.ret with
 | true=>zx9 P F G c
 | false=>.go (zxB (zvX P F G c))
theorem zjr (P:Program) (F:T Func) (G:Nat) (c:Cfg):zkG P F G c = zaw P F G c:=by
 obtain ⟨⟨fn,nt,tm,todo,dr,df,ret,rnd,lo,dfd⟩,cs,H⟩:=c
 cases ret with
 | true=>rfl
 | false =>
  unfold zkG
  simp only
  rw [ztf]
  rfl
def runF (P:Program) (F:T Func) (G:Nat) (test:Value->AH->Bool):Nat->Cfg->Bool
 | 0,_=>false
 | n + 1,c=>match zkG P F G c with
  | .done v H=>test v H
  | .go [c']=>runF P F G test n c'
  | .go l=>!l.isEmpty && l.all (runF P F G test n)
theorem zmG (P:Program) (F:T Func) (G:Nat) (test:Value->AH->Bool):∀ (n:Nat) (c:Cfg),runF P F G test n c = zoz P F G test n c
 | 0,_=>rfl
 | n + 1,c=>by
  have ih:runF P F G test n = zoz P F G test n:=funext (zmG P F G test n)
  unfold runF zoz
  rw [zjr]
  cases zaw P F G c with
  | done v H=>rfl
  | go l =>
   match l with
   | []=>rfl
   | [c']=>simp [ih]
   | a :: b :: l=>simp only [ih]
end Go.Run
noncomputable section
namespace Go.Run
open Go.RowKit
def zqi (H:AH) (t:T AObj) (b:Nat):T AObj:=cond (zq b) (match H.get b with | some o=>t.set b o | none=>t) t
def AH.only (H:AH) (live:List Nat):AH:=⟨H.nx,live.foldl (zqi H) .nil⟩
theorem zrg {H:AH} {t:T AObj} (h:∀ b o,t.get b = some o->H.get b = some o) (x:Nat):∀ b o,(zqi H t x).get b = some o->H.get b = some o:=by
 intro b o hb
 unfold zqi at hb
 cases hs:zq x with
 | false=>rw [hs] at hb; exact h b o hb
 | true =>
  rw [hs] at hb
  simp only [cond_true] at hb
  split at hb
  ·rename_i o' ho
   rw [T.get_set hs] at hb
   by_cases e:b = x
   ·subst e; rw [if_pos rfl] at hb; cases hb; exact ho
   ·rw [if_neg e] at hb; exact h b o hb
  ·exact h b o hb
theorem zmH (H:AH):∀ (live:List Nat) (t:T AObj),(∀ b o,t.get b = some o->H.get b = some o)->∀ b o,(live.foldl (zqi H) t).get b = some o->H.get b = some o
 | [],_,h=>h
 | x :: live,_,h=>zmH H live _ (zrg h x)
theorem AH.get_only {H:AH} {live:List Nat} {b:Nat} {o:AObj} (h:(H.only live).get b = some o):H.get b = some o :=
 zmH H live .nil (fun b o h=>by simp [T.get_nil] at h) b o h
section
variable {P:Program} {F:T Func} {w0:World} {G:Nat} {L:Lam} {H:AH} {w:World} {cs0:List Frame} {f0:FuncId}
theorem zH.only (h:zH w0 G L H w) (live:List Nat):zH w0 G L (H.only live) w :=
 ⟨fun b o p h1 h2=>h.obj b o p (AH.get_only h1) h2,fun b b' o o' p p' h1 h2 a1 a2 h3 h4 he=>h.inj b b' o o' p p' (AH.get_only h1) (AH.get_only h2) a1 a2 h3 h4 he,h.dom,h.own,h.lt,h.keep,h.glob,h.gnx⟩
theorem Sim.only {c:Cfg} {m:Machine} (h:Sim P w0 G cs0 f0 c m) (hd:c.fr.dr = none) (live:List Nat):Sim P w0 G cs0 f0 ⟨c.fr,c.cs,c.H.only live⟩ m:=by
 obtain ⟨L,cf,cfs,w,rfl,hH,⟨b,a,hB,ht⟩,hC,hlo,hG,hb⟩:=h
 refine ⟨L,cf,cfs,w,rfl,hH.only live,⟨b,a,hB,?_⟩,hC,hlo,hG,hb⟩
 rcases ht with ⟨hret,todo,rfl,hbody⟩ | ht
 ·refine .inl ⟨hret,todo,rfl,?_⟩
  unfold QJ at hbody ⊢
  rw [hd] at hbody ⊢
  exact hbody
 ·exact .inr ht
def Leads (P:Program) (G:Nat) (test:Value->AH->Bool) (c:Cfg):Prop :=
 ∀ (w0:World) (cs0:List Frame) (f0:FuncId) (m:Machine),Sim P w0 G cs0 f0 c m ->
  ∃ L v H' x fr w',test v H' = true/\Steps P m (lone fr cs0 w')/\fr.fn = f0/\fr.leaving P w' (.returned x)/\zH w0 G L H' w'/\VR L v x
def zhb (P:Program) (F:T Func) (G:Nat):Nat->Cfg->Option Cfg
 | 0,c=>some c
 | n + 1,c=>match zkG P F G c with
  | .go [c']=>zhb P F G n c'
  | _=>none
def zdG (P:Program) (F:T Func) (G:Nat) (n:Nat) (live:List Nat) (c:Cfg):Option Cfg :=
 match zhb P F G n c with
 | some c'=>(match c'.fr.dr with
  | none=>some ⟨c'.fr,c'.cs,c'.H.only live⟩
  | some _=>none)
 | none=>none
theorem leads_run (hF:Yn P F) (hm:P.follows .mixedOrders = true) {test:Value->AH->Bool} {n:Nat} {c:Cfg} (h:runF P F G test n c = true):Leads P G test c :=
 fun _ _ _ m hs=>zmF hF hm n c m hs (by rw [<- zmG]; exact h)
theorem zfr (hF:Yn P F) (hm:P.follows .mixedOrders = true) {test:Value->AH->Bool}:∀ (n:Nat) (c c':Cfg),zhb P F G n c = some c'->Leads P G test c'->Leads P G test c
 | 0,c,c',h,hl=>by simp only [zhb,zyO] at h; subst h; exact hl
 | n + 1,c,c',h,hl=>by
  simp only [zhb] at h
  split at h
  ·rename_i c1 h1
   intro w0 cs0 f0 m hs
   rw [zjr] at h1
   obtain ⟨c2,m1,m',s1,hs'⟩:=zmE hF hm hs h1 (by simp)
   simp only [List.mem_singleton] at m1
   subst m1
   obtain ⟨L,v,H',x,fr,w',q0,q1,q2⟩:=zfr hF hm n c2 c' h hl w0 cs0 f0 m' hs'
   exact ⟨L,v,H',x,fr,w',q0,s1.trans q1,q2⟩
  ·cases h
theorem leads_cut (hF:Yn P F) (hm:P.follows .mixedOrders = true) {test:Value->AH->Bool} {n:Nat} {live:List Nat} {c c':Cfg} (h:zdG P F G n live c = some c') (hl:Leads P G test c'):Leads P G test c:=by
 unfold zdG at h
 split at h
 ·rename_i c1 h1
  split at h
  ·rename_i hd
   cases h
   refine zfr hF hm n c c1 h1 fun w0 cs0 f0 m hs=>?_
   exact hl w0 cs0 f0 m (hs.only hd live)
  ·cases h
 ·cases h
def zaf:Code->List Nat->Code
 | c,[]=>c
 | .seq a _,0 :: p=>zaf a p
 | .seq _ b,_ :: p=>zaf b p
 | .cond _ a _,0 :: p=>zaf a p
 | .cond _ _ b,_ :: p=>zaf b p
 | .block _ b,_ :: p=>zaf b p
 | .loop b,_ :: p=>zaf b p
 | .scope b,_ :: p=>zaf b p
 | .rangeFunc _ _ a _,0 :: p=>zaf a p
 | .rangeFunc _ _ _ b,_ :: p=>zaf b p
 | c,_=>c
def cAt (f:Func) (p:List Nat):Code:=zaf (f.body.getD .skip) p
def Y6:Code->Array Oper
 | .region _ ops _=>ops
 | _=>#[]
def zwM:Code->Array Tmp
 | .rangeFunc _ ps _ _=>ps
 | _=>#[]
namespace Sh
def e {α:Type} (x:α):T α:=.node .nil (some x) .nil
def l {α:Type} (t:T α) (x:α):T α:=.node t (some x) .nil
def r {α:Type} (x:α) (t:T α):T α:=.node .nil (some x) t
def b {α:Type} (t:T α) (x:α) (t':T α):T α:=.node t (some x) t'
def o {α:Type} (t t':T α):T α:=.node t none t'
def i (n:Int):Value:=.int .i64 n
def p (b o:Nat):Value:=.pointer (some ⟨b,o,none⟩)
def t:Value:=.bool true
def f:Value:=.bool false
def u:Value:=undef
def s (l:List Nat):Value:=.string ⟨(l.map UInt8.ofNat).toArray⟩
def c (x:Nat):Value:=.int .u8 x
end Sh
def vi (n:Int):Value:=.int .i64 n
def vs (l:List Nat):Value:=.string ⟨(l.map UInt8.ofNat).toArray⟩
def vl (b o n c:Nat):Value:=.slice (some ⟨b,o,none⟩) n c
def ifr (fn:FuncId) (nt:Nat) (tm:T Value) (todo:List Item) (dr:Option Dr) (defers:List DfA) (rnd:Option Nat) (lo:Nat) (ret dfd:Bool):AFr :=
 { fn:=fn,nt:=nt,tm:=tm,todo:=todo,dr:=dr,defers:=defers,ret:=ret,rnd:=rnd,lo:=lo,dfd:=dfd }
end
end Go.Run
noncomputable section
namespace Go.Run
open Go.RowKit
mutual
def flatD:DataW Unit->Option (List Value)
 | .lit (.bool b)=>some [.bool b]
 | .lit (.int k n)=>some [.int k n]
 | .lit (.string l)=>some [.string ⟨l.toArray⟩]
 | .agg ds=>flatDs ds
 | _=>none
def flatDs:List (DataW Unit)->Option (List Value)
 | []=>some []
 | d :: ds=>match flatD d,flatDs ds with
  | some a,some b=>some (a++b)
  | _,_=>none
end
def zkH (P:Program) (g:TypeId->Bool):Nat->List Field->Nat->Bool
 | off,[],tot=>Nat.beq off tot
 | off,f :: fs,tot=>Nat.beq f.offset off && g f.type && zkH P g (off + P.cellsOf f.type) fs tot
def zjs (P:Program):Nat->TypeId->Bool
 | 0,_=>false
 | n + 1,t=>match P.underlying t with
  | some .bool=>true
  | some (.int _)=>true
  | some .string=>true
  | some (.struct fs)=>zkH P (zjs P n) 0 fs.toList (P.cellsOf t)
  | some (.array k e)=>Nat.beq (k * P.cellsOf e) (P.cellsOf t) && zjs P n e
  | _=>false
section
variable {enc:TypeId × Value->Unit} {P:Program} {w:World} {base:Nat} {spare:Nat->Bool} {held:Bool}
theorem zfs {d:DataW Unit} {ds:List (DataW Unit)} {vs:List Value} (h:flatDs (d :: ds) = some vs):∃ a b,flatD d = some a/\flatDs ds = some b/\vs = a++b:=by
 simp only [flatDs] at h
 split at h
 ·rename_i a b h1 h2
  cases h
  exact ⟨a,b,h1,h2,rfl⟩
 ·cases h
theorem zqj {m:Nat} {g:TypeId->Bool} {cs:List Value} (ih:∀ t,g t = true->∀ cs x vs,DataW.trod enc P w base spare held m t cs = some x->flatD x.1 = some vs->cs = vs) :
  ∀ (fs:List Field) (xs:List (DataW Unit × List MemPlace)) (off:Nat) (vs:List Value),zkH P g off fs cs.length = true->xs.length = fs.length ->
   (∀ (i:Nat) (f:Field),fs[i]? = some f->DataW.trod enc P w base spare held m f.type ((cs.drop f.offset).take (P.cellsOf f.type)) = xs[i]?)->flatDs (xs.map (·.1)) = some vs->cs.drop off = vs
 | [],xs,off,vs,ht,hl,_,hf=>by
  have:xs = []:=List.eq_nil_of_length_eq_zero hl
  subst this
  simp only [List.map_nil,flatDs,zyO] at hf
  subst hf
  have:=Nat.eq_of_beq_eq_true ht
  simp [this]
 | f :: fs,[],_,_,_,hl,_,_=>by simp at hl
 | f :: fs,x :: xs,off,vs,ht,hl,hx,hf=>by
  simp only [zkH,Bool.and_eq_true] at ht
  obtain ⟨⟨h1,h2⟩,h3⟩:=ht
  have h1:=Nat.eq_of_beq_eq_true h1
  obtain ⟨a,b,q1,q2,rfl⟩:=zfs hf
  have r1:=hx 0 f (by simp)
  rw [h1] at r1
  have e1:=ih f.type h2 _ x a (by simpa using r1) q1
  have e2:=zqj ih fs xs _ b h3 (by simpa using hl) (fun i f hf=>by have:=hx (i + 1) f (by simpa using hf); simpa using this) q2
  rw [<- List.take_append_drop (P.cellsOf f.type) (cs.drop off),e1,List.drop_drop,e2]
theorem zmI {m c:Nat} {e:TypeId} {cs:List Value} (ih:∀ cs x vs,DataW.trod enc P w base spare held m e cs = some x->flatD x.1 = some vs->cs = vs) :
  ∀ (xs:List (DataW Unit × List MemPlace)) (j:Nat) (vs:List Value),(j + xs.length) * c = cs.length ->
   (∀ (i:Nat),i < xs.length->DataW.trod enc P w base spare held m e ((cs.drop ((j + i) * c)).take c) = xs[i]?)->flatDs (xs.map (·.1)) = some vs->cs.drop (j * c) = vs
 | [],j,vs,hl,_,hf=>by
  simp only [List.map_nil,flatDs,zyO] at hf
  subst hf
  simp only [List.length_nil,Nat.add_zero] at hl
  simp [hl]
 | x :: xs,j,vs,hl,hx,hf=>by
  obtain ⟨a,b,q1,q2,rfl⟩:=zfs hf
  have r1:=hx 0 (by simp)
  have e1:=ih _ x a (by simpa using r1) q1
  have e2:=zmI ih xs (j + 1) b (by simp only [List.length_cons] at hl; rw [<- hl]; congr 1; omega) (fun i hi=>by
   have:=hx (i + 1) (by simpa using hi)
   rw [show j + (i + 1) = j + 1 + i from by omega] at this
   simpa using this) q2
  rw [<- List.take_append_drop c (cs.drop (j * c)),e1,List.drop_drop]
  rw [Nat.add_mul,Nat.one_mul] at e2
  rw [e2]
theorem zeD:∀ (n:Nat) (t:TypeId) (m:Nat) (cs:List Value) (x:DataW Unit × List MemPlace) (vs:List Value),zjs P n t = true->DataW.trod enc P w base spare held m t cs = some x->flatD x.1 = some vs->cs = vs
 | 0,_,_,_,_,_,h,_,_=>by simp [zjs] at h
 | n + 1,t,m,cs,x,vs,ht,hx,hf=>by
  unfold zjs at ht
  split at ht
  ·rename_i hu
   obtain ⟨b,rfl,rfl⟩:=DataW.trod_bool hu hx
   simp only [flatD,zyO] at hf
   exact hf
  ·rename_i hu
   obtain ⟨b,rfl,rfl,_⟩:=DataW.trod_int hu hx
   simp only [flatD,zyO] at hf
   exact hf
  ·rename_i hu
   obtain ⟨b,rfl,rfl,_⟩:=DataW.trod_string hu hx
   simp only [flatD,zyO] at hf
   exact hf
  ·rename_i fs hu
   obtain ⟨xs,k,rfl,rfl,hl,hxs,hi⟩:=DataW.trod_struct hu hx
   rw [<- hl] at ht
   have hf':flatDs (xs.map (·.1)) = some vs:=by simpa [flatD] using hf
   have:=zqj (fun t h cs x vs h1 h2=>zeD n t k cs x vs h h1 h2) fs.toList xs 0 vs ht (by simpa using hxs) (fun i f h=>hi i f (by simpa using h)) hf'
   simpa using this
  ·rename_i k e hu
   obtain ⟨xs,j,rfl,rfl,hl,hxs,hi⟩:=DataW.trod_array hu hx
   simp only [Bool.and_eq_true] at ht
   have hk:=Nat.eq_of_beq_eq_true ht.1
   have hf':flatDs (xs.map (·.1)) = some vs:=by simpa [flatD] using hf
   have:=zmI (c:=P.cellsOf e) (fun cs x vs h1 h2=>zeD n e j cs x vs ht.2 h1 h2) xs 0 vs (by rw [Nat.zero_add,hxs,hk,hl]) (fun i h=>by rw [Nat.zero_add]; exact hi i (by omega)) hf'
   simpa using this
  ·cases ht
end
theorem zdH {P:Program} {w:World} {n:String} {d:DataW Unit}:∀ {laid:List (String × DataW Unit)} {ps:List MemPlace},DataW.LaidVars P w laid ps->(n,d) ∈ laid ->
  ∃ g t cs fuel p,P.globalNamed n = some g/\(P.globals[g]?).map (·.type) = some t/\w.var? P n = some cs/\DataW.trod (fun _=>()) P w 0 (fun _=>true) false fuel t cs.toList = some (d,p)/\∀ x ∈ MemPlace.row ⟨g,0,none⟩ cs.size,x ∈ ps
 | [],_,_,h=>by cases h
 | (n',d') :: r,ps,hl,h=>by
  obtain ⟨g,t,cs,fuel,p,q,h1,h2,h3,h4,h5,rfl⟩:=hl
  rcases List.mem_cons.1 h with h | h
  ·cases h
   exact ⟨g,t,cs,fuel,p,h1,h2,h3,h4,fun x hx=>by simp [hx]⟩
  ·obtain ⟨g',t',cs',fuel',p',q1,q2,q3,q4,q5⟩:=zdH h5 h
   exact ⟨g',t',cs',fuel',p',q1,q2,q3,q4,fun x hx=>by simp [q5 x hx]⟩
theorem laid_cells {P:Program} {laid:List (String × DataW Unit)} {w:World} (h:laidMet P laid w) {n:String} {d:DataW Unit} (hn:(n,d) ∈ laid) {g:Nat} {t:TypeId} {vs:List Value} (hg:P.globalNamed n = some g)
  (ht:(P.globals[g]?).map (·.type) = some t) (hti:zjs P 8 t = true) (hf:flatD d = some vs) (hne:0 < vs.length):∃ ty,w.heap[g]? = some (.cells vs.toArray ty (0,0)):=by
 obtain ⟨ps,hl,_,hp⟩:=h
 obtain ⟨g',t',cs,fuel,p,h1,h2,h3,h4,h5⟩:=zdH hl hn
 rw [hg] at h1; cases h1
 rw [ht] at h2; cases h2
 have hcs:=zeD 8 t fuel cs.toList _ vs hti h4 hf
 have hsz:cs.size = vs.length:=by rw [<- hcs]; simp
 obtain ⟨⟨c,ty,hc⟩,_⟩:=hp g 0 (h5 _ (by simp [MemPlace.row]; omega))
 refine ⟨ty,?_⟩
 have:w.var? P n = some c:=by simp [World.var?,hg,hc]
 rw [this] at h3; cases h3
 rw [hc,<- hcs]
def zkI (vs:List Value) (ty:TypeId):AObj:=.cells vs.length (T.setRow .nil 0 vs) ty none (0,0)
theorem laidObj_rel {L:Lam} {w:World} {g:Nat} {vs:List Value} {ty:TypeId} (h:w.heap[g]? = some (.cells vs.toArray ty (0,0))) (hs:zq vs.length = true) (hf:vs.all (fun v=>flat v && v.oneCell') = true):Y7 L w ⟨g,0,0⟩ (zkI vs ty):=by
 refine ⟨vs.toArray,(0,0),h,.inl ⟨rfl,rfl⟩,⟨rfl,by simp⟩,fun i hi=>?_⟩
 rw [List.all_eq_true] at hf
 have hx:=hf vs[i] (List.getElem_mem hi)
 simp only [Bool.and_eq_true] at hx
 refine ⟨vs[i],vs[i],?_,?_,VR.refl_flat hx.1,hx.2⟩
 ·rw [T.get_setRow vs .nil 0 (by simpa using hs),if_pos ⟨Nat.zero_le _,by omega⟩]
  simp [hi]
 ·simp [hi]
end Go.Run
