import Derived.Test.YtjcbpfhlgebgdaaDoorR7
import Derived.Lib.Builder
import Derived.Lib.UnsafeStr
noncomputable section
namespace Go.Run
open Go.RowKit
section
variable {P:Program} {w0:World} {G:Nat} {L:Lam} {H:AH} {w:World}
theorem pureRun_bind {α β:Type} (s:Sem α) (f:α→Sem β):pureRun P (s >>= f) = (pureRun P s).bind fun a=>pureRun P (f a):=by
 show pureRun P (Sem.bind s f) = _
 induction s with
 | pure a=>rfl
 | program k ih=>simp only [Sem.bind,pureRun]; exact ih P
 | mark m k ih=>simp only [Sem.bind,pureRun]; exact ih
 | _=>rfl
theorem pureRun_pure {α:Type} (a:α):pureRun P (pure a:Sem α) = some a:=rfl
def KE:List MapEntry→List MapEntry→Prop
 | [],[]=>True
 | e :: es,e' :: es'=>e.key = e'.key∧KE es es'
 | _,_=>False
def FO (es':List MapEntry) (i:Nat):Option (Nat × Value)→Option (Nat × Value)→Prop
 | none,r=>r = none
 | some (j,_),r=>i ≤ j∧∃ e,es'[j - i]? = some e∧r = some (j,e.val)
theorem FO.succ {e:MapEntry} {es':List MapEntry} {i:Nat} {r r':Option (Nat × Value)} (h:FO es' (i + 1) r r'):FO (e :: es') i r r':=by
 cases r with
 | none=>exact h
 | some x =>
  obtain ⟨j,v⟩:=x
  obtain ⟨h1,e',h2,h3⟩:=h
  refine ⟨by omega,e',?_,h3⟩
  rw [show j - i = (j - (i + 1)) + 1 from by omega]
  simpa using h2
theorem findNow_spec (kind:TypeDesc) (k:Value):∀ (es es':List MapEntry) (i:Nat),KE es es'→(Instr.findNow kind k es i = none→Instr.findNow kind k es' i = none)∧∀ r,Instr.findNow kind k es i = some r→∃ r',Instr.findNow kind k es' i = some r'∧FO es' i r r'
 | [],[],i,_=>⟨fun h=>by simp [Instr.findNow] at h,fun r h=>by simp only [Instr.findNow,Option.some.injEq] at h; subst h; exact ⟨none,rfl,rfl⟩⟩
 | [],_ :: _,_,h=>h.elim
 | _ :: _,[],_,h=>h.elim
 | e :: es,e' :: es',i,h=>by
  obtain ⟨i1,i2⟩:=findNow_spec kind k es es' (i + 1) h.2
  have hk:=h.1
  simp only [Instr.findNow,← hk]
  cases hs:Instr.sameNow kind k e.key with
  | none=>exact ⟨fun _=>rfl,fun r h=>by cases h⟩
  | some b =>
   cases b with
   | true=>exact ⟨fun h=>(by cases h),fun r h=>(by cases h; exact ⟨_,rfl,Nat.le_refl _,e',by simp,rfl⟩)⟩
   | false =>
    refine ⟨i1,fun r hr=>?_⟩
    obtain ⟨r',q1,q2⟩:=i2 r hr
    exact ⟨r',q1,q2.succ⟩
theorem findAsking_spec (kt:TypeId) (k:Value):∀ (es es':List MapEntry) (i:Nat) (r:Option (Nat × Value)),KE es es'→pureRun P (Instr.findAsking kt k es i) = some r→∃ r',(∀ w,(Instr.findAsking kt k es' i).run P w = .ok r' w)∧FO es' i r r'
 | [],[],i,r,_,h=>by
  simp only [Instr.findAsking,pureRun_pure,Option.some.injEq] at h; subst h
  exact ⟨none,fun w=>by simp [Instr.findAsking],rfl⟩
 | [],_ :: _,_,_,h,_=>h.elim
 | _ :: _,[],_,_,h,_=>h.elim
 | e :: es,e' :: es',i,r,h,hr=>by
  simp only [Instr.findAsking,pureRun_bind] at hr
  cases hb:pureRun P (Op.equal kt k e.key) with
  | none=>rw [hb] at hr; simp at hr
  | some b =>
   rw [hb] at hr
   simp only [Option.bind_some] at hr
   have hrun:∀ w,(Op.equal kt k e'.key).run P w = .ok b w:=fun w=>by rw [← h.1]; exact pureRun_run _ hb w
   cases b with
   | true =>
    simp only [if_true,pureRun_pure,Option.some.injEq] at hr; subst hr
    exact ⟨some (i,e'.val),fun w=>by simp [Instr.findAsking,hrun],Nat.le_refl _,e',by simp,rfl⟩
   | false =>
    simp only [Bool.false_eq_true,if_false] at hr
    obtain ⟨r',q1,q2⟩:=findAsking_spec kt k es es' (i + 1) r h.2 hr
    exact ⟨r',fun w=>by simp [Instr.findAsking,hrun,q1],q2.succ⟩
def keysOnly (es:List MapEntry):List MapEntry:=es.map fun e=>{ key:=e.key,val:=.bool true,born:=e.born }
def findA (P:Program) (kt:TypeId) (k:Value) (es:List MapEntry):Option (Option Nat) :=
 cond (flat k && es.all (fun e=>flat e.key)) (match pureRun P (Instr.checkKey es.isEmpty 10000 kt k),pureRun P (Instr.findKey kt k (keysOnly es)) with
  | some _,some r=>some (r.map (·.1))
  | _,_=>none) none
theorem KE_of {es es':List MapEntry} (h:MR L es es') (hf:es.all (fun e=>flat e.key) = true):KE (keysOnly es) es':=by
 induction es generalizing es' with
 | nil =>
  have:es' = []:=List.eq_nil_of_length_eq_zero (by simpa using h.1.symm)
  subst this; trivial
 | cons e es ih =>
  cases es' with
  | nil=>have:=h.1; simp at this
  | cons e' es' =>
   simp only [List.all_cons,Bool.and_eq_true] at hf
   refine ⟨?_,ih ⟨by have:=h.1; simpa using this,fun i a b h1 h2=>h.2 (i + 1) a b (by simpa using h1) (by simpa using h2)⟩ hf.2⟩
   exact ((h.2 0 e e' (by simp) (by simp)).key.eq_flat hf.1).symm
theorem findA_spec {kt:TypeId} {k k':Value} {es es':List MapEntry} {r:Option Nat} (hr:findA P kt k es = some r) (hk:VR L k k') (hm:MR L es es') (w:World):k' = k∧(Instr.checkKey es'.isEmpty 10000 kt k).run P w = .ok () w ∧
  match r with
  | none=>(Instr.findKey kt k es').run P w = .ok none w
  | some j=>∃ e e',es[j]? = some e∧es'[j]? = some e'∧ER L e e'∧(Instr.findKey kt k es').run P w = .ok (some (j,e'.val)) w:=by
 unfold findA at hr
 cases hc:(flat k && es.all (fun e=>flat e.key)) with
 | false=>rw [hc] at hr; cases hr
 | true =>
  rw [hc] at hr
  simp only [cond_true] at hr
  simp only [Bool.and_eq_true] at hc
  have hkk:=hk.eq_flat hc.1
  split at hr
  ·rename_i u r0 h1 h2
   cases hr
   have hemp:es'.isEmpty = es.isEmpty:=by
    have:=hm.1
    cases es <;> cases es' <;> simp_all
   refine ⟨hkk,by rw [hemp]; exact pureRun_run _ h1 w,?_⟩
   have ke:=KE_of hm hc.2
   have key:∃ r',(Instr.findKey kt k es').run P w = .ok r' w∧FO es' 0 r0 r':=by
    simp only [Instr.findKey,pureRun_bind] at h2
    cases hu:P.underlying kt with
    | none =>
     exfalso
     simp [underlying,program,pureRun_bind,pureRun,hu,stuck] at h2
    | some d =>
     have hun:pureRun P (underlying kt) = some d:=by
      simp [underlying,program,pureRun_bind,pureRun,hu]
      rfl
     rw [hun] at h2
     simp only [Option.bind_some] at h2
     obtain ⟨n1,n2⟩:=findNow_spec d k (keysOnly es) es' 0 ke
     cases hn:Instr.findNow d k (keysOnly es) 0 with
     | some q =>
      rw [hn] at h2
      simp only [pureRun_pure,Option.some.injEq] at h2; subst h2
      obtain ⟨r',q1,q2⟩:=n2 q hn
      exact ⟨r',by simp [Instr.findKey,run_underlying hu,q1],q2⟩
     | none =>
      rw [hn] at h2
      simp only at h2
      obtain ⟨r',q1,q2⟩:=findAsking_spec kt k _ es' 0 r0 ke h2
      exact ⟨r',by simp [Instr.findKey,run_underlying hu,n1 hn,q1],q2⟩
   obtain ⟨r',q1,q2⟩:=key
   cases r0 with
   | none=>have:r' = none:=q2; subst this; exact q1
   | some x =>
    obtain ⟨j,v⟩:=x
    obtain ⟨_,e',h3,h4⟩:=q2
    simp only [Nat.sub_zero] at h3
    have hlt:j < es.length:=by rw [hm.1]; exact (List.getElem?_eq_some_iff.1 h3).1
    exact ⟨es[j],e',List.getElem?_eq_getElem hlt,h3,hm.2 j _ _ (List.getElem?_eq_getElem hlt) h3,by rw [q1,h4]⟩
  ·cases hr
def mapT (P:Program) (t:TypeId):Option (TypeId × TypeId):=match P.underlying t with
 | some (.map k e)=>some (k,e)
 | _=>none
theorem mapT_spec {t k e:TypeId} (h:mapT P t = some (k,e)):P.underlying t = some (.map k e):=by
 unfold mapT at h
 split at h
 ·rename_i hu; cases h; exact hu
 ·cases h
def lookupA (P:Program) (H:AH) (t:TypeId) (m k:Value) (ok:Bool):Option Value :=
 match mapT P t with
 | none=>none
 | some (kt,et)=>match (match m with | .map none=>some [] | .map (some b)=>(match H.get b with | some (.map es _)=>some es | _=>none) | _=>none) with
  | none=>none
  | some es=>match findA P kt k es,zeroT P et with
   | some (some j),_=>match es[j]? with
    | some e=>some (if ok then .tuple #[e.val,.bool true] else e.val)
    | none=>none
   | some none,some z=>some (if ok then .tuple #[z,.bool false] else z)
   | _,_=>none
def lookupBody (kt et:TypeId) (es:Array MapEntry) (k:Value) (ok:Bool):Sem Value:=do
 Instr.checkKey es.isEmpty 10000 kt k
 let (v,there) ← match ← Instr.findKey kt k es.toList with
  | some (_,v)=>pure (v,true)
  | none=>pure (← zeroValue et,false)
 pure (if ok then .tuple #[v,.bool there] else v)
theorem lookupA_spec (h:HRel w0 G L H w) {t:TypeId} {m k m' k' r:Value} {ok:Bool} (hr:lookupA P H t m k ok = some r) (hm:VR L m m') (hk:VR L k k'):∃ y,(Instr.lookup t m' k' ok).run P w = .ok y w∧VR L r y:=by
 unfold lookupA at hr
 split at hr
 ·cases hr
 ·rename_i kt et ht
  have hu:=mapT_spec ht
  have key:∀ (es:List MapEntry) (es':Array MapEntry),MR L es es'.toList→(match findA P kt k es,zeroT P et with
   | some (some j),_=>match es[j]? with
    | some e=>some (if ok then Value.tuple #[e.val,.bool true] else e.val)
    | none=>none
   | some none,some z=>some (if ok then .tuple #[z,.bool false] else z)
   | _,_=>none) = some r→∃ y,(lookupBody kt et es' k' ok).run P w = .ok y w∧VR L r y:=by
   intro es es' hmr hq
   split at hq
   ·rename_i j hf
    obtain ⟨rfl,c1,e,e',h1,h2,h3,h4⟩:=findA_spec hf hk hmr w
    rw [Array.isEmpty_toList] at c1
    rw [h1] at hq
    simp only [Option.some.injEq] at hq; subst hq
    cases ok
    ·exact ⟨e'.val,by simp [lookupBody,c1,h4],h3.val⟩
    ·exact ⟨.tuple #[e'.val,.bool true],by simp [lookupBody,c1,h4],h3.val.pair (.bool _)⟩
   ·rename_i z hf hz
    obtain ⟨rfl,c1,h4⟩:=findA_spec hf hk hmr w
    rw [Array.isEmpty_toList] at c1
    obtain ⟨z1,z2⟩:=zeroT_spec hz
    simp only [Option.some.injEq] at hq; subst hq
    cases ok
    ·exact ⟨z,by simp [lookupBody,c1,h4,z1],VR.refl_flat z2⟩
    ·exact ⟨.tuple #[z,.bool false],by simp [lookupBody,c1,h4,z1],(VR.refl_flat z2).pair (.bool _)⟩
   ·cases hq
  split at hr
  ·cases hr
  ·rename_i es hes
   split at hes
   ·cases hes
    cases hm
    obtain ⟨y,q1,q2⟩:=key [] #[] ⟨rfl,fun i a b h1=>by simp at h1⟩ hr
    exact ⟨y,by rw [← q1]; simp [Instr.lookup,lookupBody,run_underlying hu]; rfl,q2⟩
   ·rename_i b
    split at hes
    ·rename_i es0 clock hb
     cases hes
     cases hm with
     | map hp =>
      rename_i p
      obtain ⟨es',h1,h2⟩:=h.obj b _ p hb hp
      obtain ⟨y,q1,q2⟩:=key es es' h2 hr
      exact ⟨y,by rw [← q1]; simp [Instr.lookup,lookupBody,run_underlying hu,run_getObj h1 rfl]; rfl,q2⟩
    ·cases hes
   ·cases hes
theorem ccU {α:Type} {c:Bool} {q:Option α} {r:α} (h:(bif c then q else none) = some r):c = true∧q = some r:=by
 cases c
 ·cases h
 ·exact ⟨rfl,h⟩
def uptrA (P:Program) (H:AH) (s d:TypeId) (x:Value):Option Value :=
 match x with
 | .pointer (some ⟨b,o,none⟩)=>match P.underlying s,P.underlying d,H.get b with
  | some (.pointer t),some .unsafePointer,some (.cells n _ _ none _)=>(match P.info? t with
   | some j=>cond (!Nat.beq j.size 0 && Nat.blt o n) (some x) none
   | none=>none)
  | some .unsafePointer,some (.pointer u),some (.cells n _ ty none _)=>(match P.info? u with
   | some _=>cond (liesAt P P.depth ty (n / P.cellsOf ty) o u 1) (some x) none
   | none=>none)
  | _,_,_=>none
 | _=>none
def convA (P:Program) (H:AH) (s d:TypeId) (x:Value):Option Value :=
 cond (flat x) (match pureRun P (convert s d x) with
  | some v=>cond (flat v) (some v) none
  | none=>none) (match strOfA P H s d x with
   | some v=>some v
   | none=>uptrA P H s d x)
def binA (P:Program) (op:BinOp) (t:TypeId) (ox oy:Operand) (x y:Value):Option Value :=
 cond (flat x && flat y) (match pureRun P (do eqGuard op t ox oy x y; binOp op t x y) with
  | some v=>cond (flat v) (some v) none
  | none=>none) (match op with
  | .eql=>(match eqA P t x y with | some b=>some (.bool b) | none=>none)
  | .neq=>(match eqA P t x y with | some b=>some (.bool !b) | none=>none)
  | _=>none)
def sdataA:Value→Option Value
 | .slice none _ _=>some (.pointer none)
 | .slice (some ⟨b,o,none⟩) _ c=>cond (Nat.blt 1 c) (some (.pointer (some ⟨b,o,none⟩))) none
 | _=>none
theorem sdataA_spec {x x' v:Value} (hv:sdataA x = some v) (hx:VR L x x') (ts:Array TypeId) (ty:TypeId) (w:World):∃ y,(Builtin.unsafeSliceData_ ts ty #[x']).run P w = .ok y w∧VR L v y:=by
 unfold sdataA at hv
 split at hv
 ·cases hv
  cases hx with
  | nils=>exact ⟨_,Lib.run_unsafeSliceData_nil w ts ty _ _,.nilp⟩
 ·rename_i b o n c
  obtain ⟨c0,hv⟩:=ccU hv
  cases hv
  cases hx with
  | slice hp =>
   rename_i p
   have hc:1 < c:=by simpa using c0
   refine ⟨_,Lib.run_unsafeSliceData_row w ts ty _ _ _ ?_,.ptr hp⟩
   cases ho:isOpen c with
   | true=>rw [ccap_open ho]; omega
   | false=>rw [ccap_closed ho]; omega
 ·cases hv
def builtinA (P:Program) (H:AH) (b:Builtin) (tys:Array TypeId) (ty:TypeId) (args:List Value):Option Value :=
 match b,tys.toList,args with
 | .len,[t],[x]=>lenA P H t x
 | .cap,[t],[x]=>capA P t x
 | .unsafeSliceData,_,[x]=>sdataA x
 | .max,_,_ | .min,_,_=>cond (args.all flat) (match pureRun P (builtin b tys ty #[] args.toArray) with
  | some (.value v)=>cond (flat v) (some v) none
  | _=>none) none
 | _,_,_=>none
def omapA (ρ:Ev):Option Operand→Option Value
 | some x=>some (ρ x)
 | none=>none
def oflat:Option Value→Bool
 | some v=>flat v
 | none=>true
theorem OR.eq_flat {v x:Option Value} (h:OR L v x) (hf:oflat v = true):x = v:=by
 cases v with
 | none=>cases x with
  | none=>rfl
  | some _=>exact h.elim
 | some v=>cases x with
  | none=>exact h.elim
  | some x=>rw [VR.eq_flat hf h]
theorem uptrA_spec (h:HRel w0 G L H w) {s d:TypeId} {x r x':Value} (hr:uptrA P H s d x = some r) (hx:VR L x x'):∃ y,(convert s d x').run P w = .ok y w∧VR L r y:=by
 unfold uptrA at hr
 split at hr
 ·rename_i b o
  cases hx with
  | ptr hp =>
   rename_i p
   split at hr
   ·rename_i t n tr ty fz hs hd hb
    obtain ⟨cur,fr,h1,_,⟨h2,h3⟩,_⟩:=h.obj b _ p hb hp
    have hsh:w.shape? p.b = some (ty,n):=by simp [World.shape?,h1,h3]
    split at hr
    ·rename_i j hj
     have c0:=(ccU hr).1
     replace hr:=(ccU hr).2
     cases hr
     simp only [Bool.and_eq_true,Bool.not_eq_true'] at c0
     refine ⟨_,Lib.run_to_unsafe w ⟨p.b,p.base + o,none⟩ hs hd hj (fun q=>?_) hsh ?_,.ptr hp⟩
     ·rw [q] at c0; simp at c0
     ·rw [h2,Nat.zero_add]; simpa using c0.2
    ·cases hr
   ·rename_i u n tr ty fz hs hd hb
    obtain ⟨cur,fr,h1,_,⟨h2,h3⟩,_⟩:=h.obj b _ p hb hp
    have hsh:w.shape? p.b = some (ty,n):=by simp [World.shape?,h1,h3]
    split at hr
    ·rename_i j hj
     have c0:=(ccU hr).1
     replace hr:=(ccU hr).2
     cases hr
     refine ⟨_,Lib.run_from_unsafe w ⟨p.b,p.base + o,none⟩ hs hd hj hsh ?_,.ptr hp⟩
     rw [h2,Nat.zero_add]; exact c0
    ·cases hr
   ·cases hr
 ·cases hr
def evalQ (P:Program) (H:AH) (ρ:Ev) (o:Oper):Option Value :=
 match o.op with
 | .move x | .assign x=>some (ρ x)
 | .pick c a b=>match ρ c with
  | .bool t=>some (if t then ρ a else ρ b)
  | _=>none
 | .load t a=>loadA P H t (ρ a)
 | .nilCheck x=>match ρ x with
  | .pointer (some ⟨b,f,none⟩)=>some (.pointer (some ⟨b,f,none⟩))
  | .func (.func f) a b=>some (.func (.func f) a b)
  | .iface t v=>some (.iface t v)
  | _=>none
 | .binOp op t x y _=>binA P op t x y (ρ x) (ρ y)
 | .unOp op _ x=>cond (flat (ρ x)) (match pureRun P (Op.unary op (ρ x)) with
  | some v=>cond (flat v) (some v) none
  | none=>none) none
 | .convert s d x=>convA P H s d (ρ x)
 | .makeInterface t x=>match P.underlying t with
  | some (.interface _)=>none
  | some _=>some (.iface t (ρ x))
  | none=>none
 | .makeFunc f a b=>cond (fnFlat f) (some (.func f (a.toList.map ρ).toArray (b.toList.map ρ).toArray)) none
 | .slice t x lo hi mx=>match ρ x with
  | .string s=>cond (oflat (omapA ρ lo) && oflat (omapA ρ hi) && oflat (omapA ρ mx)) (match pureRun P (Instr.sliceAt t (.string s) (omapA ρ lo) (omapA ρ hi) (omapA ρ mx)) with
   | some (.string r)=>some (.string r)
   | _=>none) none
  | v=>sliceA P t v (omapA ρ lo) (omapA ρ hi) (omapA ρ mx)
 | .fieldAddr s x f=>fieldAddrA P s (ρ x) f
 | .field t x f=>fieldA P t (ρ x) f
 | .indexAddr t x i=>indexAddrA P t (ρ x) (ρ i)
 | .index t x i=>match ρ x with
  | .string s=>cond (flat (ρ i)) (match pureRun P (Instr.index t (.string s) (ρ i)) with
   | some (.int k n)=>some (.int k n)
   | _=>none) none
  | v=>indexA P t v (ρ i)
 | .lookup t m k ok=>lookupA P H t (ρ m) (ρ k) ok
 | .typeAssert x _ a ok=>assertA P (ρ x) a ok
 | .extract x i=>match ρ x with
  | .tuple vs=>vs.toList[i]?
  | _=>none
 | .build t ps=>buildA P t (ps.toList.map fun x=>(x.1,ρ x.2))
 | .call { callee:=.builtin b,args,argTypes }=>builtinA P H b argTypes o.type (args.toList.map ρ)
 | _=>none
theorem LR_map {ρ ρ':Ev}:∀ (l:List Operand),(∀ x ∈ l,VR L (ρ x) (ρ' x))→LR L (l.map ρ) (l.map ρ')
 | [],_=>LR.nil L
 | x :: l,h=>(LR_map l fun y hy=>h y (by simp [hy])).cons (h x (by simp))
theorem OR_map {ρ ρ':Ev} {x:Option Operand} (h:∀ y,x = some y→VR L (ρ y) (ρ' y)):OR L (omapA ρ x) (x.map ρ'):=by
 cases x with
 | none=>trivial
 | some y=>exact h y rfl
theorem evalQ_spec (h:HRel w0 G L H w) {ρ ρ':Ev} {o:Oper} {v:Value} (hv:evalQ P H ρ o = some v) (hop:∀ x ∈ o.op.operands,VR L (ρ x) (ρ' x)) :
  ∃ x,(execOp ρ' o).run P w = .ok (.value x) w∧VR L v x:=by
 unfold evalQ at hv
 have fl:∀ {q:Option Value} {u:Value},(match q with | some v=>cond (flat v) (some v) none | none=>none) = some u→q = some u∧flat u = true:=by
  intro q u hq
  cases q with
  | none=>cases hq
  | some z =>
   simp only at hq
   cases hf:flat z with
   | false=>rw [hf] at hq; cases hq
   | true=>rw [hf] at hq; cases hq; exact ⟨rfl,hf⟩
 split at hv
 ·rename_i x ho; cases hv
  exact ⟨ρ' x,by simp [execOp,ho],hop x (by simp [ho,Op.operands])⟩
 ·rename_i x ho; cases hv
  exact ⟨ρ' x,by simp [execOp,ho],hop x (by simp [ho,Op.operands])⟩
 ·rename_i c a b ho
  have h1:=hop c (by simp [ho,Op.operands])
  have h2:=hop a (by simp [ho,Op.operands])
  have h3:=hop b (by simp [ho,Op.operands])
  split at hv
  ·rename_i t hc
   cases hv
   rw [hc] at h1
   generalize hc':ρ' c = c' at h1
   cases h1
   refine ⟨if t then ρ' a else ρ' b,by simp [execOp,ho,hc',asBool],?_⟩
   cases t
   ·simpa using h3
   ·simpa using h2
  ·cases hv
 ·rename_i t a ho
  obtain ⟨ad,e,y,q1,q2⟩:=loadA_spec h hv (hop a (by simp [ho,Op.operands]))
  exact ⟨y,by simp [execOp,ho,Instr.loadAt,Instr.sureAddr,e,q1],q2⟩
 ·rename_i x ho
  have h1:=hop x (by simp [ho,Op.operands])
  split at hv
  ·rename_i b f hx
   rw [hx] at h1
   generalize hx':ρ' x = x' at h1
   cases hv
   refine ⟨x',?_,h1⟩
   cases h1
   simp [execOp,ho,hx']
  ·rename_i f a b hx
   rw [hx] at h1
   generalize hx':ρ' x = x' at h1
   cases hv
   refine ⟨x',?_,h1⟩
   cases h1 with
   | func hf _ _ _ _ =>
    cases hf
    simp [execOp,ho,hx']
  ·rename_i t u hx
   rw [hx] at h1
   generalize hx':ρ' x = x' at h1
   cases hv
   refine ⟨x',?_,h1⟩
   cases h1
   simp [execOp,ho,hx']
  ·cases hv
 ·rename_i op t x y yt ho
  have h1:=hop x (by simp [ho,Op.operands])
  have h2:=hop y (by simp [ho,Op.operands])
  unfold binA at hv
  cases hf:(flat (ρ x) && flat (ρ y)) with
  | true =>
   rw [hf] at hv
   simp only [cond_true] at hv
   simp only [Bool.and_eq_true] at hf
   obtain ⟨q1,q2⟩:=fl hv
   have:=pureRun_run _ q1 w
   rw [← h1.eq_flat hf.1,← h2.eq_flat hf.2] at this
   exact ⟨v,by simp only [execOp,ho]; rw [Sem.run_bind,this]; rfl,VR.refl_flat q2⟩
  | false =>
   rw [hf] at hv
   simp only [cond_false] at hv
   split at hv
   ·split at hv
    ·rename_i b hb
     cases hv
     have:=(eqA_spec hb h1 h2 w x y).1
     exact ⟨.bool b,by simp only [execOp,ho]; rw [Sem.run_bind,this]; rfl,.bool _⟩
    ·cases hv
   ·split at hv
    ·rename_i b hb
     cases hv
     have:=(eqA_spec hb h1 h2 w x y).2
     exact ⟨.bool !b,by simp only [execOp,ho]; rw [Sem.run_bind,this]; rfl,.bool _⟩
    ·cases hv
   ·cases hv
 ·rename_i op t x ho
  have h1:=hop x (by simp [ho,Op.operands])
  cases hf:flat (ρ x) with
  | false=>rw [hf] at hv; cases hv
  | true =>
   rw [hf] at hv
   simp only [cond_true] at hv
   obtain ⟨q1,q2⟩:=fl hv
   have:=pureRun_run _ q1 w
   rw [← h1.eq_flat hf] at this
   exact ⟨v,by simp [execOp,ho,this],VR.refl_flat q2⟩
 ·rename_i s d x ho
  have h1:=hop x (by simp [ho,Op.operands])
  unfold convA at hv
  cases hf:flat (ρ x) with
  | false =>
   rw [hf] at hv
   simp only [cond_false] at hv
   split at hv
   ·rename_i u hu
    cases hv
    obtain ⟨q1,q2⟩:=strOfA_spec h hu h1
    exact ⟨v,by simp [execOp,ho,q1],VR.refl_flat q2⟩
   ·obtain ⟨y,q1,q2⟩:=uptrA_spec h hv h1
    exact ⟨y,by simp [execOp,ho,q1],q2⟩
  | true =>
   rw [hf] at hv
   simp only [cond_true] at hv
   obtain ⟨q1,q2⟩:=fl hv
   have:=pureRun_run _ q1 w
   rw [← h1.eq_flat hf] at this
   exact ⟨v,by simp [execOp,ho,this],VR.refl_flat q2⟩
 ·rename_i t x ho
  have h1:=hop x (by simp [ho,Op.operands])
  split at hv
  ·cases hv
  ·rename_i d hn hu
   cases hv
   refine ⟨.iface t (ρ' x),?_,.iface h1⟩
   cases d <;> first | (exact (hn _ rfl).elim) | simp [execOp,ho,Instr.makeInterface,run_underlying hu]
  ·cases hv
 ·rename_i f a b ho
  cases hf:fnFlat f with
  | false=>rw [hf] at hv; cases hv
  | true =>
   rw [hf] at hv; cases hv
   have m1:∀ x ∈ a.toList,x ∈ o.op.operands:=fun x hx=>by
    rw [ho]; exact Array.mem_append.2 (.inl (by simpa using hx))
   have m2:∀ x ∈ b.toList,x ∈ o.op.operands:=fun x hx=>by
    rw [ho]; exact Array.mem_append.2 (.inr (by simpa using hx))
   have r1:=(LR_map (ρ:=ρ) (ρ':=ρ') (L:=L) a.toList fun x hx=>hop x (m1 x hx)).toArray
   have r2:=(LR_map (ρ:=ρ) (ρ':=ρ') (L:=L) b.toList fun x hx=>hop x (m2 x hx)).toArray
   refine ⟨.func f (a.map ρ') (b.map ρ'),by simp [execOp,ho,Instr.makeFunc],?_⟩
   have e1:a.map ρ' = (a.toList.map ρ').toArray:=by apply Array.ext'; simp
   have e2:b.map ρ' = (b.toList.map ρ').toArray:=by apply Array.ext'; simp
   rw [e1,e2]
   exact .func (.same hf) r1.1 r2.1 r1.2 r2.2
 ·rename_i t x lo hi mx ho
  have h1:=hop x (by simp [ho,Op.operands])
  have o1:OR L (omapA ρ lo) (lo.map ρ'):=OR_map fun y hy=>hop y (by simp [ho,Op.operands,hy])
  have o2:OR L (omapA ρ hi) (hi.map ρ'):=OR_map fun y hy=>hop y (by simp [ho,Op.operands,hy])
  have o3:OR L (omapA ρ mx) (mx.map ρ'):=OR_map fun y hy=>hop y (by simp [ho,Op.operands,hy])
  split at hv
  ·rename_i s hx
   rw [hx] at h1
   generalize hx':ρ' x = x' at h1
   cases h1
   cases hf:(oflat (omapA ρ lo) && oflat (omapA ρ hi) && oflat (omapA ρ mx)) with
   | false=>rw [hf] at hv; cases hv
   | true =>
    rw [hf] at hv
    simp only [cond_true] at hv
    simp only [Bool.and_eq_true] at hf
    split at hv
    ·rename_i r hr
     cases hv
     have:=pureRun_run _ hr w
     rw [← o1.eq_flat hf.1.1,← o2.eq_flat hf.1.2,← o3.eq_flat hf.2] at this
     exact ⟨.string r,by simp [execOp,ho,hx',this],.string r⟩
    ·cases hv
  ·obtain ⟨z,q1,q2⟩:=sliceA_spec hv h1 o1 o2 o3 w
   exact ⟨z,by simp [execOp,ho,q1],q2⟩
 ·rename_i s x f ho
  obtain ⟨z,q1,q2⟩:=fieldAddrA_spec hv (hop x (by simp [ho,Op.operands])) w
  exact ⟨z,by simp [execOp,ho,q1],q2⟩
 ·rename_i t x f ho
  obtain ⟨z,q1,q2⟩:=fieldA_spec hv (hop x (by simp [ho,Op.operands])) w
  exact ⟨z,by simp [execOp,ho,q1],q2⟩
 ·rename_i t x i ho
  obtain ⟨z,q1,q2⟩:=indexAddrA_spec hv (hop x (by simp [ho,Op.operands])) (hop i (by simp [ho,Op.operands])) w
  exact ⟨z,by simp [execOp,ho,q1],q2⟩
 ·rename_i t x i ho
  have h1:=hop x (by simp [ho,Op.operands])
  have h2:=hop i (by simp [ho,Op.operands])
  split at hv
  ·rename_i s hx
   rw [hx] at h1
   generalize hx':ρ' x = x' at h1
   cases h1
   cases hf:flat (ρ i) with
   | false=>rw [hf] at hv; cases hv
   | true =>
    rw [hf] at hv
    simp only [cond_true] at hv
    split at hv
    ·rename_i k n hr
     cases hv
     have:=pureRun_run _ hr w
     rw [← h2.eq_flat hf] at this
     exact ⟨.int k n,by simp [execOp,ho,hx',this],.int k n⟩
    ·cases hv
  ·obtain ⟨z,q1,q2⟩:=indexA_spec hv h1 h2 w
   exact ⟨z,by simp [execOp,ho,q1],q2⟩
 ·rename_i t m k ok ho
  obtain ⟨z,q1,q2⟩:=lookupA_spec h hv (hop m (by simp [ho,Op.operands])) (hop k (by simp [ho,Op.operands]))
  exact ⟨z,by simp [execOp,ho,q1],q2⟩
 ·rename_i x xt a ok ho
  obtain ⟨z,q1,q2⟩:=assertA_spec (xT:=xt) hv (hop x (by simp [ho,Op.operands])) w
  exact ⟨z,by simp [execOp,ho,q1],q2⟩
 ·rename_i x i ho
  have h1:=hop x (by simp [ho,Op.operands])
  split at hv
  ·rename_i vs hx
   rw [hx] at h1
   generalize hx':ρ' x = x' at h1
   cases h1 with
   | tuple a b =>
    rename_i xs
    obtain ⟨z,q1,q2⟩:=AR.get ⟨a,b⟩ (i:=i) (v:=v) (by simpa using hv)
    exact ⟨z,by simp [execOp,ho,hx',Instr.extract,q1],q2⟩
  ·cases hv
 ·rename_i t ps ho
  have hrel:LR L ((ps.toList.map fun x=>(x.1,ρ x.2)).map (·.2)) ((ps.toList.map fun x=>(x.1,ρ' x.2)).map (·.2)):=by
   have:=LR_map (ρ:=ρ) (ρ':=ρ') (L:=L) (ps.toList.map (·.2)) fun x hx=>hop x (by simp [ho,Op.operands]; simpa using hx)
   simpa [List.map_map,Function.comp_def] using this
  obtain ⟨z,q1,q2⟩:=buildA_spec hv (vals:=ps.toList.map fun x=>(x.1,ρ' x.2)) (by simp [List.map_map,Function.comp_def]) hrel w
  refine ⟨z,?_,q2⟩
  have e1:(ps.map fun (i,x)=>(i,ρ' x)) = (ps.toList.map fun x=>(x.1,ρ' x.2)).toArray:=by
   apply Array.ext'; simp
  simp only [execOp,ho]
  rw [e1]
  simp [q1]
 ·rename_i b args tys ho
  have hm:∀ x ∈ args.toList,x ∈ o.op.operands:=fun x hx=>by
   rw [ho]; simp only [Op.operands,Call.operands,Array.mem_append]; exact .inr (by simpa using hx)
  have hrel:=LR_map (ρ:=ρ) (ρ':=ρ') (L:=L) args.toList fun x hx=>hop x (hm x hx)
  have hres:∀ w,(resolve ρ' { callee:=.builtin b,args:=args,argTypes:=tys } o.type).run P w = .ok { target:=.builtin b tys o.type (args.map fun | .const _=>true | _=>false),args:=args.map ρ' } w:=fun w=>by rfl
  unfold builtinA at hv
  split at hv
  ·rename_i t x ht ha
   rw [ha] at hrel
   obtain ⟨y,ys,e1,h1,h2⟩:=hrel.cons_inv
   have:=h2.nil_inv; subst this
   obtain ⟨q1,q2⟩:=lenA_spec (u:=o.type) h hv h1
   have ea:args.map ρ' = #[y]:=by apply Array.ext'; simp [e1]
   have et:tys = #[t]:=by apply Array.ext'; simp [ht]
   refine ⟨v,?_,VR.refl_flat q2⟩
   simp only [execOp,ho]
   rw [Sem.run_bind,hres]
   simp [invoke,builtin,ea,et,q1]
  ·rename_i t x ht ha
   rw [ha] at hrel
   obtain ⟨y,ys,e1,h1,h2⟩:=hrel.cons_inv
   have:=h2.nil_inv; subst this
   obtain ⟨q1,q2⟩:=capA_spec (u:=o.type) hv h1 w
   have ea:args.map ρ' = #[y]:=by apply Array.ext'; simp [e1]
   have et:tys = #[t]:=by apply Array.ext'; simp [ht]
   refine ⟨v,?_,VR.refl_flat q2⟩
   simp only [execOp,ho]
   rw [Sem.run_bind,hres]
   simp [invoke,builtin,ea,et,q1]
  ·rename_i x ha
   rw [ha] at hrel
   obtain ⟨y,ys,e1,h1,h2⟩:=hrel.cons_inv
   have:=h2.nil_inv; subst this
   obtain ⟨z,q1,q2⟩:=sdataA_spec (P:=P) hv h1 tys o.type w
   have ea:args.map ρ' = #[y]:=by apply Array.ext'; simp [e1]
   refine ⟨z,?_,q2⟩
   simp only [execOp,ho]
   rw [Sem.run_bind,hres]
   simp [invoke,builtin,ea,q1]
  all_goals first
   | (cases hf:(List.map ρ args.toList).all flat with
    | false=>rw [hf] at hv; cases hv
    | true =>
     rw [hf] at hv
     simp only [cond_true] at hv
     split at hv
     ·rename_i v' hr
      cases hq:flat v' with
      | false=>rw [hq] at hv; cases hv
      | true =>
       rw [hq] at hv; cases hv
       have:=pureRun_run _ hr w
       have ea:args.map ρ' = (args.toList.map ρ).toArray:=by
        have:=hrel.eq_flat hf
        apply Array.ext'; simp [← this]
       refine ⟨v,?_,VR.refl_flat hq⟩
       simp only [execOp,ho]
       rw [Sem.run_bind,hres]
       simp only [Result.andThen_ok,invoke,ea]
       simpa [builtin] using this
     ·cases hv)
   | cases hv
 ·cases hv
end
end Go.Run
