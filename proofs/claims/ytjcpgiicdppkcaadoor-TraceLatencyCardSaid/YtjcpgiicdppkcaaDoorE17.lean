import Derived.Test.YtjcpgiicdppkcaaDoorE13
namespace Go.Eng
set_option linter.unusedSimpArgs false
set_option linter.unusedVariables false
open Go.RowKit
section
variable {P : Program}
variable {d : Option Nat} {ty : TypeId} {ps : String} {af : Array Edge} {g : Option (Nat × Bool)} {st : St} {K : St → Prop}
theorem eval_tmp (nb : Nat) (sl : Nat → V × Option (Nat × TypeId)) (bx : Nat → Option Box) (t : Nat) : St.eval ⟨nb, sl, bx⟩ (.tmp t) = (sl t).1 := (rfl)
theorem eval_const (st : St) (v : Value) : st.eval (.const v) = constV v := (rfl)
def gvalV (g : Nat) : V := match GL g with | some vs => .elt (vs.map constV) 0 | none => .any
theorem eval_global (st : St) (g : Nat) : st.eval (.global g) = gvalV g := (rfl)
theorem tokOf_global (st : St) (g : Nat) : st.tokOf (.global g) = none := (rfl)
theorem eval_func (st : St) (f : FuncId) : st.eval (.func f) = .fn (.func f) [] [] := (rfl)
theorem tokOf_tmp (nb : Nat) (sl : Nat → V × Option (Nat × TypeId)) (bx : Nat → Option Box) (t : Nat) : St.tokOf ⟨nb, sl, bx⟩ (.tmp t) = (sl t).2 := (rfl)
theorem tokOf_const (st : St) (v : Value) : st.tokOf (.const v) = none := (rfl)
theorem tokOf_func (st : St) (f : FuncId) : st.tokOf (.func f) = none := (rfl)
theorem env_mk (nb : Nat) (sl : Nat → V × Option (Nat × TypeId)) (bx : Nat → Option Box) (t : Nat) : St.env ⟨nb, sl, bx⟩ t = (sl t).1 := (rfl)
theorem tok_mk (nb : Nat) (sl : Nat → V × Option (Nat × TypeId)) (bx : Nat → Option Box) (t : Nat) : St.tok ⟨nb, sl, bx⟩ t = (sl t).2 := (rfl)
theorem put_mk (nb : Nat) (sl : Nat → V × Option (Nat × TypeId)) (bx : Nat → Option Box) (d : Nat) (v : V) (tk : Option (Nat × TypeId)) : St.put ⟨nb, sl, bx⟩ (some d) v tk = ⟨nb, upd sl d (v, tk), bx⟩ := (rfl)
theorem put_none (st : St) (v : V) (tk : Option (Nat × TypeId)) : st.put none v tk = st := (rfl)
theorem newBox_mk (nb : Nat) (sl : Nat → V × Option (Nat × TypeId)) (bx : Nat → Option Box) (cs : List V) (e : TypeId) : St.newBox ⟨nb, sl, bx⟩ cs e = ⟨nb + 1, sl, upd bx nb (some ⟨cs, e⟩)⟩ := (rfl)
theorem setBox_mk (nb : Nat) (sl : Nat → V × Option (Nat × TypeId)) (bx : Nat → Option Box) (i : Nat) (B : Box) : St.setBox ⟨nb, sl, bx⟩ i B = ⟨nb, sl, upd bx i (some B)⟩ := (rfl)
theorem clear_mk (nb : Nat) (sl : Nat → V × Option (Nat × TypeId)) (bx : Nat → Option Box) (t : Nat) : St.clear ⟨nb, sl, bx⟩ t = ⟨nb, fun s => clr t (sl s), bx⟩ := (rfl)
theorem clr_none (t : Nat) (v : V) : clr t (v, none) = (v, none) := (rfl)
theorem clr_same (t : Nat) (e : TypeId) (v : V) : clr t (v, some (t, e)) = (v, none) := by simp [clr]
theorem clr_some (t u : Nat) (e : TypeId) (v : V) : clr t (v, some (u, e)) = (v, if u = t then none else some (u, e)) := (rfl)
theorem upd_apply {α : Type} (f : Nat → α) (i j : Nat) (x : α) : upd f i x j = if j = i then x else f j := (rfl)
theorem constV_int (k : IntKind) (n : Int) : constV (.int k n) = .int k n := (rfl)
theorem constV_bool (b : Bool) : constV (.bool b) = .bool b := (rfl)
theorem constV_nilslice : constV (.slice none 0 0) = .list [] := (rfl)
theorem constV_nilfn : constV .nilFunc = .nilfn := (rfl)
theorem constV_nilif : constV .nilIface = .nilif := (rfl)
theorem constV_nilp : constV (.pointer none) = .nilp := (rfl)
theorem constV_str (l : List UInt8) (h : (decide (l.length ≤ 4294967296)) = true) : constV (.string ⟨l.toArray⟩) = .str l := by
  have h' : (ByteArray.mk l.toArray).size ≤ maxLen := by
    have : l.length ≤ 4294967296 := of_decide_eq_true h
    show l.toArray.size ≤ maxLen
    simp only [maxLen, List.size_toArray]; omega
  simp only [constV, constC, if_pos h']
theorem thenQ_normal (K : St → Prop) (Q : Exit → St → Prop) (st : St) : thenQ K Q .normal st = K st := (rfl)
theorem thenQ_ret (K : St → Prop) (Q : Exit → St → Prop) (st : St) : thenQ K Q .ret st = Q .ret st := (rfl)
theorem thenQ_exit (K : St → Prop) (Q : Exit → St → Prop) (id : Nat) (st : St) : thenQ K Q (.exit id) st = Q (.exit id) st := (rfl)
theorem blockQ_normal (id : Nat) (Q : Exit → St → Prop) (st : St) : blockQ id Q .normal st = Q .normal st := (rfl)
theorem blockQ_ret (id : Nat) (Q : Exit → St → Prop) (st : St) : blockQ id Q .ret st = Q .ret st := (rfl)
theorem blockQ_exit (id id' : Nat) (Q : Exit → St → Prop) (st : St) : blockQ id Q (.exit id') st = if id' = id then Q .normal st else Q (.exit id') st := (rfl)
theorem endQ_ret (rs : List ResultVar) (res : V) (outs : List Box) (st : St) : endQ P rs res outs .ret st = (resV st P rs = some res ∧ (∀ i B, outs[i]? = some B → st.box i = some B)) := (rfl)
theorem endQ_normal (rs : List ResultVar) (res : V) (outs : List Box) (st : St) : endQ P rs res outs .normal st = (resV st P rs = some res ∧ (∀ i B, outs[i]? = some B → st.box i = some B)) := (rfl)
theorem no_outs (st : St) : (∀ (i : Nat) (B : Box), ([] : List Box)[i]? = some B → st.box i = some B) = True := by simp
theorem resV_one (st : St) (r : ResultVar) : resV st P [r] = resOne st P r := by
  unfold resV resAll resAll
  cases resOne st P r <;> rfl
theorem resV_two (st : St) (r s : ResultVar) : resV st P [r, s] = (match resOne st P r, resOne st P s with | some a, some b => some (.tup [a, b]) | _, _ => none) := by
  unfold resV resAll resAll resAll
  cases resOne st P r <;> cases resOne st P s <;> rfl
theorem resV_three (st : St) (r s t : ResultVar) : resV st P [r, s, t] = (match resOne st P r, resOne st P s, resOne st P t with | some a, some b, some c => some (.tup [a, b, c]) | _, _, _ => none) := by
  unfold resV resAll resAll resAll resAll
  cases resOne st P r <;> cases resOne st P s <;> cases resOne st P t <;> rfl
theorem init_sl (args : List V) (ins : List Box) (s : Nat) : (St.init args ins).sl s = (args.getD s .un, none) := (rfl)
theorem init_mk (args : List V) (ins : List Box) : St.init args ins = ⟨ins.length, fun s => (args.getD s .un, none), fun i => ins[i]?⟩ := (rfl)
end
theorem rowsOK_map {α : Type} {f : α → V} {n : Nat} (h : ∀ x, (f x).csize = some n) (l : List α) : rowsOK n (l.map f) := by
  intro r hr
  obtain ⟨x, _, rfl⟩ := List.mem_map.1 hr
  exact h x
theorem noLocL_map {α : Type} {f : α → V} (h : ∀ x, (f x).noLoc = true) : ∀ l : List α, V.noLocL (l.map f) = true
  | [] => rfl
  | x :: l => by simp [V.noLocL, h x, noLocL_map h l]
theorem getD_map_any {α : Type} {f : α → V} {l : List α} {n : Nat} {d : α} (h : n < l.length) : (l.map f).getD n .any = f (l.getD n d) := by
  simp [List.getD, List.getElem?_eq_getElem h]
theorem rowsOK_bytes (l : List UInt8) : rowsOK 1 (bytesV l) := rowsOK_map (fun _ => rfl) l
theorem noLocL_bytes (l : List UInt8) : V.noLocL (bytesV l) = true := noLocL_map (fun _ => rfl) l
end Go.Eng
namespace Go.Eng
open Go.RowKit
class KV where k : V → Prop
class KT where k : V → Option (Nat × TypeId) → Prop
class KS where k : St → Prop
class KN where k : Nat → Prop
class KP where p : Prop
class OpsC where
  dr : Bool
  ds : List (Option Nat)
  os : List Oper
  k : St → Prop
class CodeC where
  c : Code
  q : Exit → St → Prop
section
variable {P : Program}
def opsW (P : Program) (st : St) [X : OpsC] : Prop := opsVC P X.dr X.ds X.os st X.k
def codeW (P : Program) (n' : Nat) (hd : List Nat) (st : St) [X : CodeC] : Prop := codeVC P n' hd X.c st X.q
def loopW (P : Program) (n' : Nat) (st : St) [X : CodeC] : Prop := AWp P n' X.c st X.q
def brW (b : Bool) [A : KP] [B : KP] : Prop := brVC b A.p B.p
def condW (v : V) [A : KP] [B : KP] : Prop := condVC v A.p B.p
def gdW (s : Option (Option Nat)) (st : St) (want : Bool) [A : KP] [B : KP] : Prop :=
  match s with
  | some (some d) => (match st.env d with
    | .bool b => brVC (b == want) A.p B.p
    | .un => B.p
    | _ => False)
  | _ => B.p
def callW (P : Program) (dr : Bool) (st : St) (dst : Option Nat) (f : FuncId) (args : List V) [K : KS] : Prop :=
  callVC P f args (fun v => K.k (st.put dst v none)) ∨ (dr = false ∧ callBVC P f args st dst K.k)
def lookupW (P : Program) (t : TypeId) (bx : Nat → Option Box) (m x : V) (ok : Bool) [K : KV] : Prop := lookupVC P t bx m x ok K.k
def mkMapW (st : St) (t : TypeId) (dst : Option Nat) [K : KS] : Prop := mkMapVC st t dst K.k
def mapPutW (P : Program) (t : TypeId) (st : St) (m x y : V) (dst : Option Nat) [K : KS] : Prop := mapPutVC P t st m x y dst K.k
def loadW (P : Program) (t : TypeId) (bx : Nat → Option Box) (x : V) [K : KV] : Prop := loadVC P t bx x K.k
def binW (P : Program) (op : BinOp) (xT : TypeId) (a b : V) [K : KV] : Prop := binVC P op xT a b K.k
def unW (op : UnOp) (x : V) [K : KV] : Prop := unVC op x K.k
def convW (P : Program) (s d : TypeId) (x : V) [K : KV] : Prop := convVC P s d x K.k
def bndW (st : St) (x : Option Operand) (d : Nat) [K : KN] : Prop := bndVC st x d K.k
def sliceW (P : Program) (t : TypeId) (st : St) (x : V) (lo hi mx : Option Operand) (dst : Option Nat) [K : KT] : Prop := sliceVC P t st x lo hi mx dst K.k
def faddrW (P : Program) (s : TypeId) (i : Nat) (x : V) [K : KV] : Prop := faddrVC P s i x K.k
def fieldW (P : Program) (s : TypeId) (i : Nat) (x : V) [K : KV] : Prop := fieldVC P s i x K.k
def iaddrW (P : Program) (t : TypeId) (x i : V) [K : KV] : Prop := iaddrVC P t x i K.k
def indexW (P : Program) (t : TypeId) (x i : V) [K : KV] : Prop := indexVC P t x i K.k
def buildW (P : Program) (t : TypeId) (parts : List (Nat × V)) [K : KV] : Prop :=
  match zeroT P t, placesT P t with
  | some zv, some place => zv.csize.isSome = true ∧ (match fillV place zv.cellsL parts with
    | some out => K.k (.agg out)
    | none => False)
  | _, _ => False
def bsliceW (P : Program) (t : TypeId) (len : Nat) (ix : Bool) (vs : List V) (dst : Option Nat) [K : KT] : Prop :=
  match sliceT P t with
  | some e => (match sizeT P e, zeroT P e with
    | some sz, some zv => (sz ≠ 0 ∧ zv.csize = some sz ∧ vs.length = len ∧ len * sz ≤ 16777216 ∧ ix = true) ∧ rowsOK sz vs ∧ K.k (.list vs) (some (dst.getD 0, e))
    | _, _ => False)
  | none => False
def nilW (x : V) [K : KV] : Prop := nilVC x K.k
def builtinW (P : Program) (b : Builtin) (args : List V) (tys : List TypeId) [K : KV] : Prop := builtinVC P b args tys K.k
def boxW (st : St) (e : TypeId) (v : V) (dst : Option Nat) [K : KS] : Prop := boxVC st e v dst K.k
def storeW (P : Program) (t : TypeId) (st : St) (x y : V) (dst : Option Nat) [K : KS] : Prop := storeVC P t st x y dst K.k
def appendW (P : Program) (st : St) (ss : Nat) (x : V) (t u : TypeId) (dst : Option Nat) [K : KS] : Prop := appendVC P st ss x t u dst K.k
def pickW (c a b : V) [K : KV] : Prop := match c with | .bool t => K.k (pickV t a b) | _ => False
def extractW (x : V) (i : Nat) [K : KV] : Prop := match x with | .tup vs => (match vs[i]? with | some v => K.k v | none => False) | _ => False
def assignW (P : Program) (ty : TypeId) (v : V) (tk : Option (Nat × TypeId)) (nil : Bool) (dst : Option Nat) [K : KT] : Prop :=
  match nil, sliceT P ty with
  | true, some e => K.k (.list []) (some (dst.getD 0, e))
  | _, _ => K.k v tk
variable {dr : Bool} {ds : List (Option Nat)} {os : List Oper} {k : St → Prop} {st : St} {d : Option Nat} {ty : TypeId} {ps : String} {af : Array Edge}
theorem opsW_nil : @opsW P st ⟨dr, ds, [], k⟩ = k st := (rfl)
theorem opsW_guard {op : Op} {j : Nat} {want : Bool} : @opsW P st ⟨dr, ds, ⟨d, op, ty, ps, af, some (j, want)⟩ :: os, k⟩ = @gdW ds[j]? st want ⟨@opsW P st ⟨dr, ds, ⟨d, op, ty, ps, af, none⟩ :: os, k⟩⟩ ⟨@opsW P (st.put d .un none) ⟨dr, ds, os, k⟩⟩ := by
  show gdVC ds st (some (j, want)) (opVC P dr ⟨d, op, ty, ps, af, some (j, want)⟩ st fun st' => opsVC P dr ds os st' k) (opsVC P dr ds os (st.put d .un none) k) = _
  have e : opVC P dr ⟨d, op, ty, ps, af, some (j, want)⟩ st (fun st' => opsVC P dr ds os st' k) = opVC P dr ⟨d, op, ty, ps, af, none⟩ st (fun st' => opsVC P dr ds os st' k) := (rfl)
  rw [e]
  simp only [gdVC, gdW]
  cases ds[j]? with
  | none => rfl
  | some od => cases od <;> rfl
theorem w_move {x : Operand} : @opsW P st ⟨dr, ds, ⟨d, .move x, ty, ps, af, none⟩ :: os, k⟩ = @opsW P (st.put d (st.eval x) (st.tokOf x)) ⟨dr, ds, os, k⟩ := (rfl)
theorem w_assign_tmp {t : Nat} : @opsW P st ⟨dr, ds, ⟨d, .assign (.tmp t), ty, ps, af, none⟩ :: os, k⟩ = @opsW P (st.put d (st.eval (.tmp t)) (st.tokOf (.tmp t))) ⟨dr, ds, os, k⟩ := (rfl)
theorem w_assign_nil : @opsW P st ⟨dr, ds, ⟨d, .assign (.const (.slice none 0 0)), ty, ps, af, none⟩ :: os, k⟩ = @assignW P ty (.list []) none true d ⟨fun v tk => @opsW P (st.put d v tk) ⟨dr, ds, os, k⟩⟩ := by
  unfold opsW assignW
  show opVC P dr ⟨d, .assign (.const (.slice none 0 0)), ty, ps, af, none⟩ st (fun st' => opsVC P dr ds os st' k) = _
  simp only [opVC, valVC, assignVC]
  cases sliceT P ty <;> rfl
theorem w_assign_int {ik : IntKind} {n : Int} : @opsW P st ⟨dr, ds, ⟨d, .assign (.const (.int ik n)), ty, ps, af, none⟩ :: os, k⟩ = @opsW P (st.put d (.int ik n) none) ⟨dr, ds, os, k⟩ := (rfl)
theorem w_assign_bool {b : Bool} : @opsW P st ⟨dr, ds, ⟨d, .assign (.const (.bool b)), ty, ps, af, none⟩ :: os, k⟩ = @opsW P (st.put d (.bool b) none) ⟨dr, ds, os, k⟩ := (rfl)
theorem w_assign_str {s : ByteArray} : @opsW P st ⟨dr, ds, ⟨d, .assign (.const (.string s)), ty, ps, af, none⟩ :: os, k⟩ = @opsW P (st.put d (constV (.string s)) none) ⟨dr, ds, os, k⟩ := (rfl)
theorem w_assign_agg {s : Array Value} : @opsW P st ⟨dr, ds, ⟨d, .assign (.const (.agg s)), ty, ps, af, none⟩ :: os, k⟩ = @opsW P (st.put d (constV (.agg s)) none) ⟨dr, ds, os, k⟩ := (rfl)
theorem w_assign_func {f : FuncId} : @opsW P st ⟨dr, ds, ⟨d, .assign (.func f), ty, ps, af, none⟩ :: os, k⟩ = @opsW P (st.put d (.fn (.func f) [] []) none) ⟨dr, ds, os, k⟩ := (rfl)
theorem w_pick {c x y : Operand} : @opsW P st ⟨dr, ds, ⟨d, .pick c x y, ty, ps, af, none⟩ :: os, k⟩ = @pickW (st.eval c) (st.eval x) (st.eval y) ⟨fun v => @opsW P (st.put d v none) ⟨dr, ds, os, k⟩⟩ := (rfl)
theorem w_load {t : TypeId} {x : Operand} : @opsW P st ⟨dr, ds, ⟨d, .load t x, ty, ps, af, none⟩ :: os, k⟩ = @loadW P t st.box (st.eval x) ⟨fun v => @opsW P (st.put d v none) ⟨dr, ds, os, k⟩⟩ := (rfl)
theorem w_bin {op : BinOp} {xT yT : TypeId} {x y : Operand} : @opsW P st ⟨dr, ds, ⟨d, .binOp op xT x y yT, ty, ps, af, none⟩ :: os, k⟩ = @binW P op xT (st.eval x) (st.eval y) ⟨fun v => @opsW P (st.put d v none) ⟨dr, ds, os, k⟩⟩ := (rfl)
theorem w_un {op : UnOp} {xT : TypeId} {x : Operand} : @opsW P st ⟨dr, ds, ⟨d, .unOp op xT x, ty, ps, af, none⟩ :: os, k⟩ = @unW op (st.eval x) ⟨fun v => @opsW P (st.put d v none) ⟨dr, ds, os, k⟩⟩ := (rfl)
theorem w_conv {s e : TypeId} {x : Operand} : @opsW P st ⟨dr, ds, ⟨d, .convert s e x, ty, ps, af, none⟩ :: os, k⟩ = @convW P s e (st.eval x) ⟨fun v => @opsW P (st.put d v none) ⟨dr, ds, os, k⟩⟩ := (rfl)
theorem w_iface {t : TypeId} {x : Operand} : @opsW P st ⟨dr, ds, ⟨d, .makeInterface t x, ty, ps, af, none⟩ :: os, k⟩ = (ifaceOK P t = true ∧ @opsW P (st.put d (.iface t (st.eval x)) none) ⟨dr, ds, os, k⟩) := (rfl)
theorem w_func {f : Go.Fn} {fi ca : List Operand} : @opsW P st ⟨dr, ds, ⟨d, .makeFunc f fi.toArray ca.toArray, ty, ps, af, none⟩ :: os, k⟩ = @opsW P (st.put d (.fn f (fi.map st.eval) (ca.map st.eval)) none) ⟨dr, ds, os, k⟩ := (rfl)
theorem w_slice {t : TypeId} {x : Operand} {lo hi mx : Option Operand} : @opsW P st ⟨dr, ds, ⟨d, .slice t x lo hi mx, ty, ps, af, none⟩ :: os, k⟩ = @sliceW P t st (st.eval x) lo hi mx d ⟨fun v tk => @opsW P (st.put d v tk) ⟨dr, ds, os, k⟩⟩ := (rfl)
theorem w_faddr {s : TypeId} {x : Operand} {i : Nat} : @opsW P st ⟨dr, ds, ⟨d, .fieldAddr s x i, ty, ps, af, none⟩ :: os, k⟩ = @faddrW P s i (st.eval x) ⟨fun v => @opsW P (st.put d v none) ⟨dr, ds, os, k⟩⟩ := (rfl)
theorem w_field {s : TypeId} {x : Operand} {i : Nat} : @opsW P st ⟨dr, ds, ⟨d, .field s x i, ty, ps, af, none⟩ :: os, k⟩ = @fieldW P s i (st.eval x) ⟨fun v => @opsW P (st.put d v none) ⟨dr, ds, os, k⟩⟩ := (rfl)
theorem w_iaddr {t : TypeId} {x i : Operand} : @opsW P st ⟨dr, ds, ⟨d, .indexAddr t x i, ty, ps, af, none⟩ :: os, k⟩ = @iaddrW P t (st.eval x) (st.eval i) ⟨fun v => @opsW P (st.put d v none) ⟨dr, ds, os, k⟩⟩ := (rfl)
theorem w_index {t : TypeId} {x i : Operand} : @opsW P st ⟨dr, ds, ⟨d, .index t x i, ty, ps, af, none⟩ :: os, k⟩ = @indexW P t (st.eval x) (st.eval i) ⟨fun v => @opsW P (st.put d v none) ⟨dr, ds, os, k⟩⟩ := (rfl)
theorem w_extract {x : Operand} {i : Nat} : @opsW P st ⟨dr, ds, ⟨d, .extract x i, ty, ps, af, none⟩ :: os, k⟩ = @extractW (st.eval x) i ⟨fun v => @opsW P (st.put d v none) ⟨dr, ds, os, k⟩⟩ := (rfl)
theorem w_build {t : TypeId} {parts : List (Nat × Operand)} : @opsW P st ⟨dr, ds, ⟨d, .build t parts.toArray, ty, ps, af, none⟩ :: os, k⟩ = @buildW P t (parts.map fun x => (x.1, st.eval x.2)) ⟨fun v => @opsW P (st.put d v none) ⟨dr, ds, os, k⟩⟩ := (rfl)
theorem w_bslice {t : TypeId} {n : Nat} {parts : List (Nat × Operand)} : @opsW P st ⟨dr, ds, ⟨d, .buildSlice t n parts.toArray, ty, ps, af, none⟩ :: os, k⟩ = @bsliceW P t n (idxOK parts 0) (parts.map fun x => st.eval x.2) d ⟨fun v tk => @opsW P (st.put d v tk) ⟨dr, ds, os, k⟩⟩ := by
  unfold opsW bsliceW
  show bsliceVC P t st n parts d (fun v tk => opsVC P dr ds os (st.put d v tk) k) = _
  unfold bsliceVC
  simp only [List.length_map]
  cases sliceT P t with
  | none => rfl
  | some e => cases hs : sizeT P e <;> cases hz : zeroT P e <;> simp only [hs, hz]
theorem w_nil {x : Operand} : @opsW P st ⟨dr, ds, ⟨d, .nilCheck x, ty, ps, af, none⟩ :: os, k⟩ = @nilW (st.eval x) ⟨fun v => @opsW P (st.put d v none) ⟨dr, ds, os, k⟩⟩ := (rfl)
theorem w_call {f : FuncId} {args : List Operand} {tys : Array TypeId} : @opsW P st ⟨dr, ds, ⟨d, .call { callee := .value (.func f), args := args.toArray, argTypes := tys }, ty, ps, af, none⟩ :: os, k⟩ = @callW P dr st d f (args.map st.eval) ⟨fun st' => @opsW P st' ⟨dr, ds, os, k⟩⟩ := by
  unfold opsW callW
  show callAVC P dr st (.fn (.func f) [] []) (args.map st.eval) d (fun st' => opsVC P dr ds os st' k) = _
  simp only [callAVC, List.nil_append, List.append_nil]
def callvW (P : Program) (dr : Bool) (st : St) (dst : Option Nat) (f : V) (args : List V) [K : KS] : Prop := callAVC P dr st f args dst K.k
theorem callvW_eq {g : FuncId} {first cap args : List V} {kk : St → Prop} : @callvW P dr st d (.fn (.func g) first cap) args ⟨kk⟩ = @callW P dr st d g (first ++ args ++ cap) ⟨kk⟩ := (rfl)
theorem w_callv {t : Nat} {args : List Operand} {tys : Array TypeId} : @opsW P st ⟨dr, ds, ⟨d, .call { callee := .value (.tmp t), args := args.toArray, argTypes := tys }, ty, ps, af, none⟩ :: os, k⟩ = @callvW P dr st d (st.eval (.tmp t)) (args.map st.eval) ⟨fun st' => @opsW P st' ⟨dr, ds, os, k⟩⟩ := (rfl)
theorem w_lookup {t : TypeId} {m x : Operand} {ok : Bool} : @opsW P st ⟨dr, ds, ⟨d, .lookup t m x ok, ty, ps, af, none⟩ :: os, k⟩ = @lookupW P t st.box (st.eval m) (st.eval x) ok ⟨fun v => @opsW P (st.put d v none) ⟨dr, ds, os, k⟩⟩ := (rfl)
theorem w_mkMap {t : TypeId} : @opsW P st ⟨dr, ds, ⟨d, .makeMap t none, ty, ps, af, none⟩ :: os, k⟩ = @mkMapW st t d ⟨fun st' => @opsW P st' ⟨dr, ds, os, k⟩⟩ := (rfl)
theorem w_mapPut {t : TypeId} {m x y : Operand} : @opsW P st ⟨dr, ds, ⟨d, .mapUpdate t m x y, ty, ps, af, none⟩ :: os, k⟩ = @mapPutW P t st (st.eval m) (st.eval x) (st.eval y) d ⟨fun st' => @opsW P st' ⟨dr, ds, os, k⟩⟩ := (rfl)
theorem mkMapW_eq {t : TypeId} {ks : St → Prop} : @mkMapW st t d ⟨ks⟩ = (st.box st.nb = none ∧ ks ((st.newBox [] (1000000000 + t)).put d (.mref st.nb) none)) := (rfl)
theorem mapPutW_eq {t : TypeId} {m x y : V} {kk : St → Prop} : @mapPutW P t st m x y d ⟨kk⟩ = match m, mapT P t with
  | .mref i, some (kt, _) => (match st.box i, keyT P kt with
    | some B, some (ag, ks) => 1000000000 ≤ B.ty ∧ KeyT P kt ∧ keyOK ag ks x ∧ keysOK ag ks B.cells ∧ d = none ∧ kk (st.setBox i ⟨mapPut B.cells x y, B.ty⟩)
    | _, _ => False)
  | _, _ => False := (rfl)
theorem lookupW_eq {t : TypeId} {bx : Nat → Option Box} {m x : V} {ok : Bool} {kk : V → Prop} : @lookupW P t bx m x ok ⟨kk⟩ = match m, mapT P t with
  | .mref i, some (kt, et) => (match bx i, keyT P kt, zeroT P et with
    | some B, some (ag, ks), some zv => 1000000000 ≤ B.ty ∧ KeyT P kt ∧ keyOK ag ks x ∧ keysOK ag ks B.cells ∧
        kk (if ok then .tup [(mapGet B.cells x).getD zv, .bool (mapGet B.cells x).isSome] else (mapGet B.cells x).getD zv)
    | _, _, _ => False)
  | _, _ => False := (rfl)
theorem w_len {args : List Operand} {tys : List TypeId} : @opsW P st ⟨dr, ds, ⟨d, .call { callee := .builtin .len, args := args.toArray, argTypes := tys.toArray }, ty, ps, af, none⟩ :: os, k⟩ = @builtinW P .len (args.map st.eval) tys ⟨fun v => @opsW P (st.put d v none) ⟨dr, ds, os, k⟩⟩ := (rfl)
theorem w_max {args : List Operand} {tys : List TypeId} : @opsW P st ⟨dr, ds, ⟨d, .call { callee := .builtin .max, args := args.toArray, argTypes := tys.toArray }, ty, ps, af, none⟩ :: os, k⟩ = @builtinW P .max (args.map st.eval) tys ⟨fun v => @opsW P (st.put d v none) ⟨dr, ds, os, k⟩⟩ := (rfl)
theorem w_min {args : List Operand} {tys : List TypeId} : @opsW P st ⟨dr, ds, ⟨d, .call { callee := .builtin .min, args := args.toArray, argTypes := tys.toArray }, ty, ps, af, none⟩ :: os, k⟩ = @builtinW P .min (args.map st.eval) tys ⟨fun v => @opsW P (st.put d v none) ⟨dr, ds, os, k⟩⟩ := (rfl)
theorem w_append {ss : Nat} {x : Operand} {t u : TypeId} : @opsW P st ⟨dr, ds, ⟨d, .call { callee := .builtin .append, args := #[.tmp ss, x], argTypes := #[t, u] }, ty, ps, af, none⟩ :: os, k⟩ = @appendW P st ss (st.eval x) t u d ⟨fun st' => @opsW P st' ⟨dr, ds, os, k⟩⟩ := (rfl)
theorem w_box {e : TypeId} {x : Operand} : @opsW P st ⟨dr, ds, ⟨d, .box e x, ty, ps, af, none⟩ :: os, k⟩ = @boxW st e (st.eval x) d ⟨fun st' => @opsW P st' ⟨dr, ds, os, k⟩⟩ := (rfl)
def allocW (P : Program) (st : St) (e : TypeId) (dst : Option Nat) [K : KS] : Prop := match zeroT P e with | some v => boxVC st e v dst K.k | none => False
theorem allocW_eq {e : TypeId} {kk : St → Prop} : @allocW P st e d ⟨kk⟩ = match zeroT P e with | some v => @boxW st e v d ⟨kk⟩ | none => False := (rfl)
theorem w_alloc {e : TypeId} : @opsW P st ⟨dr, ds, ⟨d, .alloc e, ty, ps, af, none⟩ :: os, k⟩ = @allocW P st e d ⟨fun st' => @opsW P st' ⟨dr, ds, os, k⟩⟩ := (rfl)
theorem w_store {t : TypeId} {x y : Operand} : @opsW P st ⟨dr, ds, ⟨d, .store t x y, ty, ps, af, none⟩ :: os, k⟩ = @storeW P t st (st.eval x) (st.eval y) d ⟨fun st' => @opsW P st' ⟨dr, ds, os, k⟩⟩ := (rfl)
variable {kk : V → Prop} {kt : V → Option (Nat × TypeId) → Prop} {A B : Prop}
theorem brW_true : @brW true ⟨A⟩ ⟨B⟩ = A := brVC_true A B
theorem brW_false : @brW false ⟨A⟩ ⟨B⟩ = B := brVC_false A B
theorem brW_not {b : Bool} : @brW (!b) ⟨A⟩ ⟨B⟩ = @brW b ⟨B⟩ ⟨A⟩ := by
  cases b
  · rw [Bool.not_false, brW_true, brW_false]
  · rw [Bool.not_true, brW_true, brW_false]
theorem condW_bool {b : Bool} : @condW (.bool b) ⟨A⟩ ⟨B⟩ = @brW b ⟨A⟩ ⟨B⟩ := (rfl)
theorem gdW_slot {s : Nat} {want : Bool} : @gdW (some (some s)) st want ⟨A⟩ ⟨B⟩ = match st.env s with | .bool b => @brW (b == want) ⟨A⟩ ⟨B⟩ | .un => B | _ => False := (rfl)
theorem pickW_eq {c a b : V} : @pickW c a b ⟨kk⟩ = match c with | .bool t => kk (pickV t a b) | _ => False := (rfl)
theorem extractW_eq {x : V} {i : Nat} : @extractW x i ⟨kk⟩ = match x with | .tup vs => (match vs[i]? with | some v => kk v | none => False) | _ => False := (rfl)
theorem assignW_eq {v : V} {tk : Option (Nat × TypeId)} {b : Bool} : @assignW P ty v tk b d ⟨kt⟩ = match b, sliceT P ty with
  | true, some e => kt (.list []) (some (d.getD 0, e))
  | _, _ => kt v tk := (rfl)
theorem loadW_eq {t : TypeId} {bx : Nat → Option Box} {x : V} : @loadW P t bx x ⟨kk⟩ = match x, aggT P t with
  | .elt cs off, some true => (match sizeT P t with | some n => off + n ≤ cs.length ∧ kk (.agg ((cs.drop off).take n)) | none => False)
  | .elt cs off, some false => (match cs[off]? with | some c => kk c | none => False)
  | .loc i off, some true => (match bx i, sizeT P t with | some B, some n => B.ty < 1000000000 ∧ off + n ≤ B.cells.length ∧ kk (.agg ((B.cells.drop off).take n)) | _, _ => False)
  | .loc i off, some false => (match bx i with | some B => B.ty < 1000000000 ∧ (match B.cells[off]? with | some c => kk c | none => False) | none => False)
  | _, _ => False := (rfl)
def intW (op : BinOp) (ik : IntKind) (a b : Int) [K : KV] : Prop := intVC op ik a b K.k
def strW (op : BinOp) (s t : List UInt8) [K : KV] : Prop := strVC op s t K.k
theorem binW_eq {op : BinOp} {xT : TypeId} {a b : V} : @binW P op xT a b ⟨kk⟩ = match a, b with
  | .int k x, .int k' y => k = k' ∧ @intW op k x y ⟨kk⟩
  | .str s, .str t => @strW op s t ⟨kk⟩
  | .bool x, .bool y => (match op, basicT P xT with
    | .eql, .bool => kk (.bool (x == y))
    | .neq, .bool => kk (.bool (!(x == y)))
    | _, _ => False)
  | .agg cs, .agg ds => (match op, eqT P xT with
    | .eql, some ks => kindsOK ks cs ∧ kindsOK ks ds ∧ kk (.bool (eqV cs ds))
    | .neq, some ks => kindsOK ks cs ∧ kindsOK ks ds ∧ kk (.bool (!eqV cs ds))
    | _, _ => False)
  | _, _ => False := (rfl)
theorem intW_add {ik : IntKind} {a b : Int} : @intW .add ik a b ⟨kk⟩ = (InR ik (a + b) ∧ kk (.int ik (a + b))) := (rfl)
theorem intW_sub {ik : IntKind} {a b : Int} : @intW .sub ik a b ⟨kk⟩ = (InR ik (a - b) ∧ kk (.int ik (a - b))) := (rfl)
theorem intW_mul {ik : IntKind} {a b : Int} : @intW .mul ik a b ⟨kk⟩ = (InR ik (a * b) ∧ kk (.int ik (a * b))) := (rfl)
theorem intW_quo {ik : IntKind} {a b : Int} : @intW .quo ik a b ⟨kk⟩ = (b ≠ 0 ∧ InR ik (a.tdiv b) ∧ kk (.int ik (a.tdiv b))) := (rfl)
theorem intW_rem {ik : IntKind} {a b : Int} : @intW .rem ik a b ⟨kk⟩ = (b ≠ 0 ∧ kk (.int ik (a.tmod b))) := (rfl)
theorem intW_eql {ik : IntKind} {a b : Int} : @intW .eql ik a b ⟨kk⟩ = kk (.bool (a == b)) := (rfl)
theorem intW_neq {ik : IntKind} {a b : Int} : @intW .neq ik a b ⟨kk⟩ = kk (.bool (a != b)) := (rfl)
theorem intW_lss {ik : IntKind} {a b : Int} : @intW .lss ik a b ⟨kk⟩ = kk (.bool (decide (a < b))) := (rfl)
theorem intW_leq {ik : IntKind} {a b : Int} : @intW .leq ik a b ⟨kk⟩ = kk (.bool (decide (a ≤ b))) := (rfl)
theorem intW_gtr {ik : IntKind} {a b : Int} : @intW .gtr ik a b ⟨kk⟩ = kk (.bool (decide (b < a))) := (rfl)
theorem intW_and {ik : IntKind} {a b : Int} : @intW .and ik a b ⟨kk⟩ = kk (.int ik (bitI .and ik a b)) := (rfl)
theorem intW_or {ik : IntKind} {a b : Int} : @intW .or ik a b ⟨kk⟩ = kk (.int ik (bitI .or ik a b)) := (rfl)
theorem intW_xor {ik : IntKind} {a b : Int} : @intW .xor ik a b ⟨kk⟩ = kk (.int ik (bitI .xor ik a b)) := (rfl)
theorem intW_andNot {ik : IntKind} {a b : Int} : @intW .andNot ik a b ⟨kk⟩ = kk (.int ik (bitI .andNot ik a b)) := (rfl)
theorem intW_geq {ik : IntKind} {a b : Int} : @intW .geq ik a b ⟨kk⟩ = kk (.bool (decide (b ≤ a))) := (rfl)
theorem strW_add {s t : List UInt8} : @strW .add s t ⟨kk⟩ = (s.length + t.length ≤ maxLen ∧ kk (.str (s ++ t))) := (rfl)
theorem strW_eql {s t : List UInt8} : @strW .eql s t ⟨kk⟩ = kk (.bool (s == t)) := (rfl)
theorem strW_neq {s t : List UInt8} : @strW .neq s t ⟨kk⟩ = kk (.bool (!(s == t))) := (rfl)
theorem strW_lss {s t : List UInt8} : @strW .lss s t ⟨kk⟩ = kk (.bool (Op.bytesLess s t)) := (rfl)
theorem unW_not {b : Bool} : @unW .not (.bool b) ⟨kk⟩ = kk (.bool (!b)) := (rfl)
theorem unW_neg {ik : IntKind} {n : Int} : @unW .neg (.int ik n) ⟨kk⟩ = (InR ik (0 - n) ∧ kk (.int ik (0 - n))) := (rfl)
theorem convW_eq {s e : TypeId} {x : V} : @convW P s e x ⟨kk⟩ = match x, basicT P s, basicT P e with
  | .int _ n, .int _, .int k => InR k n ∧ kk (.int k n)
  | .str l, .str, .str => kk (.str l)
  | .str l, .str, .other => (match sliceT P e with
    | some e => (match basicT P e with | .int .u8 => kk (.list (bytesV l)) | _ => False)
    | none => False)
  | .list rows, .other, .str => (match sliceT P s with
    | some e => (match basicT P e with | .int .u8 => ∃ l, rows = bytesV l ∧ kk (.str l) | _ => False)
    | none => False)
  | _, _, _ => False := (rfl)
theorem bndW_none {n : Nat} {kn : Nat → Prop} : @bndW st none n ⟨kn⟩ = kn n := (rfl)
theorem bndW_some {x : Operand} {n : Nat} {kn : Nat → Prop} : @bndW st (some x) n ⟨kn⟩ = match st.eval x with
  | .int _ i => 0 ≤ i ∧ kn i.toNat
  | _ => False := (rfl)
theorem sliceW_eq {t : TypeId} {x : V} {lo hi mx : Option Operand} : @sliceW P t st x lo hi mx d ⟨kt⟩ = match x, mx with
  | .str s, none => (match basicT P t with
    | .str => @bndW st lo 0 ⟨fun l => @bndW st hi s.length ⟨fun h => l ≤ h ∧ h ≤ s.length ∧ kt (.str ((s.take h).drop l)) none⟩⟩
    | _ => False)
  | .list rows, none => (match sliceT P t with
    | some e => (match sizeT P e with
      | some n => rowsOK n rows ∧ @bndW st lo 0 ⟨fun l => @bndW st hi rows.length ⟨fun h => l ≤ h ∧ h ≤ rows.length ∧ kt (.list ((rows.take h).drop l)) none⟩⟩
      | none => False)
    | none => False)
  | .list rows, some m => (match sliceT P t, hi with
    | some e, some hi => (match sizeT P e with
      | some n => rowsOK n rows ∧ @bndW st lo 0 ⟨fun l => @bndW st (some hi) rows.length ⟨fun h => @bndW st (some m) rows.length ⟨fun h' => h' = h ∧ l ≤ h ∧ h ≤ rows.length ∧ kt (.list ((rows.take h).drop l)) (some (d.getD 0, e))⟩⟩⟩
      | none => False)
    | _, _ => False)
  | _, _ => False := (rfl)
theorem faddrW_eq {s : TypeId} {i : Nat} {x : V} : @faddrW P s i x ⟨kk⟩ = match fieldT P s i with
  | some (off, t) => (match sizeT P t with
    | some n => n ≠ 0 ∧ (match x with
      | .loc j a => kk (.loc j (a + off))
      | .elt cs a => kk (.elt cs (a + off))
      | _ => False)
    | none => False)
  | none => False := (rfl)
theorem fieldW_eq {s : TypeId} {i : Nat} {x : V} : @fieldW P s i x ⟨kk⟩ = match fieldT P s i, x with
  | some (off, t), .agg cs => (match aggT P t, sizeT P t with
    | some true, some n => kk (.agg ((cs.drop off).take n))
    | some false, _ => (match cs[off]? with | some c => kk c | none => False)
    | _, _ => False)
  | _, _ => False := (rfl)
theorem iaddrW_eq {t : TypeId} {x i : V} : @iaddrW P t x i ⟨kk⟩ = match x, i with
  | .list rows, .int _ i => (match sliceT P t with
    | some e => (match sizeT P e with
      | some n => rowsOK n rows ∧ (0 ≤ i ∧ i < rows.length) ∧ kk (.elt (rows.getD i.toNat .any).cellsL 0)
      | none => False)
    | none => False)
  | .loc j a, .int _ i => (match arrT P t with
    | some (len, e) => (match sizeT P e with | some n => (0 ≤ i ∧ i < (len : Int)) ∧ kk (.loc j (a + i.toNat * n)) | none => False)
    | none => False)
  | .elt cs a, .int _ i => (match arrT P t with
    | some (len, e) => (match sizeT P e with | some n => (0 ≤ i ∧ i < (len : Int)) ∧ kk (.elt cs (a + i.toNat * n)) | none => False)
    | none => False)
  | _, _ => False := (rfl)
theorem indexW_eq {t : TypeId} {x i : V} : @indexW P t x i ⟨kk⟩ = match x, i with
  | .str s, .int _ i => (match basicT P t with
    | .str => (0 ≤ i ∧ i < s.length) ∧ kk (.int .u8 (s.getD i.toNat 0).toNat)
    | _ => False)
  | .agg cs, .int _ i => (match arrT P t with
    | some (len, e) => (match aggT P e, sizeT P e with
      | some false, some n => (0 ≤ i ∧ i < (len : Int)) ∧ (match cs[i.toNat * n]? with | some c => kk c | none => False)
      | _, _ => False)
    | none => False)
  | _, _ => False := (rfl)
theorem buildW_eq {t : TypeId} {parts : List (Nat × V)} : @buildW P t parts ⟨kk⟩ = match zeroT P t, placesT P t with
  | some zv, some place => zv.csize.isSome = true ∧ (match fillV place zv.cellsL parts with
    | some out => kk (.agg out)
    | none => False)
  | _, _ => False := (rfl)
theorem bsliceW_eq {t : TypeId} {len : Nat} {ix : Bool} {vs : List V} : @bsliceW P t len ix vs d ⟨kt⟩ = match sliceT P t with
  | some e => (match sizeT P e, zeroT P e with
    | some sz, some zv => (sz ≠ 0 ∧ zv.csize = some sz ∧ vs.length = len ∧ len * sz ≤ 16777216 ∧ ix = true) ∧ rowsOK sz vs ∧ kt (.list vs) (some (d.getD 0, e))
    | _, _ => False)
  | none => False := (rfl)
theorem nilW_eq {x : V} : @nilW x ⟨kk⟩ = match x with
  | .loc i off => kk (.loc i off)
  | .elt cs off => kk (.elt cs off)
  | _ => False := (rfl)
theorem lenW_list {t : TypeId} {rows : List V} : @builtinW P .len [.list rows] [t] ⟨kk⟩ = match sliceT P t with | some _ => kk (.int .i64 rows.length) | none => False := (rfl)
theorem lenW_str {t : TypeId} {s : List UInt8} : @builtinW P .len [.str s] [t] ⟨kk⟩ = match basicT P t with | .str => kk (.int .i64 s.length) | _ => False := (rfl)
theorem maxW {t u : TypeId} {k k' : IntKind} {a b : Int} : @builtinW P .max [.int k a, .int k' b] [t, u] ⟨kk⟩ = (k = k' ∧ kk (.int k (max a b))) := (rfl)
theorem minW {t u : TypeId} {k k' : IntKind} {a b : Int} : @builtinW P .min [.int k a, .int k' b] [t, u] ⟨kk⟩ = (k = k' ∧ kk (.int k (min a b))) := (rfl)
theorem boxW_eq {e : TypeId} {v : V} {ks : St → Prop} : @boxW st e v d ⟨ks⟩ = (e < 1000000000 ∧ v.csize.isSome = true ∧ st.box st.nb = none ∧ ks ((st.newBox v.cellsL e).put d (.loc st.nb 0) none)) := (rfl)
theorem storeW_eq {t : TypeId} {x y : V} {ks : St → Prop} : @storeW P t st x y d ⟨ks⟩ = match x with
  | .loc i off => (match st.box i, sizeT P t with
    | some B, some n => B.ty < 1000000000 ∧ y.csize = some n ∧ off + n ≤ B.cells.length ∧ d = none ∧ ks (st.setBox i ⟨B.cells.take off ++ y.cellsL ++ B.cells.drop (off + n), B.ty⟩)
    | _, _ => False)
  | _ => False := (rfl)
theorem appendW_eq {ss : Nat} {x : V} {t u : TypeId} {ks : St → Prop} : @appendW P st ss x t u d ⟨ks⟩ = match st.env ss, st.tok ss, sliceT P t with
  | .list rows, some (tk, e), some e' => (match sizeT P e, bytesT P e, zeroT P e with
    | some sz, some by', some zv => (e = e' ∧ srcT P u = true ∧ zv.csize = some sz ∧ by' ≠ 0) ∧ rowsOK sz rows ∧ (match x with
      | .list rows2 => rowsOK sz rows2 ∧ (rows.length + rows2.length) * by' ≤ 140737488355328 ∧ ks ((st.clear tk).put d (.list (rows ++ rows2)) (some (tk, e)))
      | .str l => sz = 1 ∧ (rows.length + l.length) * by' ≤ 140737488355328 ∧ ks ((st.clear tk).put d (.list (rows ++ bytesV l)) (some (tk, e)))
      | _ => False)
    | _, _, _ => False)
  | _, _, _ => False := (rfl)
variable {n' : Nat} {hd : List Nat} {q : Exit → St → Prop}
theorem codeW_skip : @codeW P n' hd st ⟨.skip, q⟩ = q .normal st := (rfl)
theorem codeW_label {l : Nat} : @codeW P n' hd st ⟨.label l, q⟩ = q .normal st := (rfl)
theorem codeW_exit {id : Nat} : @codeW P n' hd st ⟨.exit id, q⟩ = q (.exit id) st := (rfl)
theorem codeW_ret : @codeW P n' hd st ⟨.ret, q⟩ = q .ret st := (rfl)
theorem codeW_seq {a b : Code} : @codeW P n' hd st ⟨.seq a b, q⟩ = @codeW P n' hd st ⟨a, thenQ (fun st' => @codeW P n' hd st' ⟨b, q⟩) q⟩ := (rfl)
theorem codeW_cond {c : Operand} {a b : Code} : @codeW P n' hd st ⟨.cond c a b, q⟩ = @condW (st.eval c) ⟨@codeW P n' hd st ⟨a, q⟩⟩ ⟨@codeW P n' hd st ⟨b, q⟩⟩ := (rfl)
theorem codeW_block {id : Nat} {b : Code} : @codeW P n' hd st ⟨.block id b, q⟩ = @codeW P n' hd st ⟨b, blockQ id q⟩ := (rfl)
theorem codeW_loop {b : Code} : @codeW P n' hd st ⟨.loop b, q⟩ = @loopW P n' st ⟨.loop b, q⟩ := (rfl)
theorem codeW_region {id : Nat} {l : List Oper} {dr : Bool} : @codeW P n' [] st ⟨.region id l.toArray dr, q⟩ = @opsW P st ⟨dr, l.map (·.dst), l, q .normal⟩ := (rfl)
theorem codeW_of {c : Code} (h : @codeW P n' hd st ⟨c, q⟩) : codeVC P n' hd c st q := h
theorem loopW_of (hm : P.follows .mixedOrders = true) {c : Code} (I : Nat → St → Prop) (hok : codeOK n' [] c = true)
    (round : ∀ k st, I k st → @codeW P n' [] st ⟨c, thenQ (fun st' => ∃ k', k' < k ∧ I k' st') q⟩) {k : Nat} (h : I k st) : @loopW P n' st ⟨.loop c, q⟩ :=
  AWp.loopVC hm I hok round h
theorem callW_of {f : FuncId} {args : List V} {res : V} {kk : St → Prop} (hg : isGo P f = true) (hn : V.noLocL args = true) (h : Fn P f args [] res []) (hk : kk (st.put d res none)) : @callW P dr st d f args ⟨kk⟩ := .inl ⟨hg, hn, res, h, hk⟩
theorem callW_box {f : FuncId} {args : List V} {kk : St → Prop} (π : List Nat) (args' : List V) (ins outs : List Box) (res : V) (hg : isGo P f = true) (hπ : π.Nodup) (hnb : st.box st.nb = none)
    (ha : args = V.renL (fun i => π.getD i st.nb) args') (hb : boxesOK st π ins) (hlen : outs.length = ins.length) (hno : ∀ B ∈ outs, V.noLocL B.cells = true) (hres : res.noLoc = true)
    (h : Fn P f args' ins res outs) (hk : kk ((st.setBoxes π outs).put d res none)) : @callW P false st d f args ⟨kk⟩ :=
  .inr ⟨rfl, hg, π, args', ins, outs, res, hπ, hnb, ha, hb, hlen, hno, hres, h, hk⟩
theorem brW_of {b : Bool} (h : b = true → A) (k : b = false → B) : @brW b ⟨A⟩ ⟨B⟩ := ⟨h, k⟩
theorem cellsL_any : (V.any).cellsL = [V.any] := (rfl)
theorem csize_any : (V.any).csize = none := (rfl)
theorem cellsL_int (k : IntKind) (n : Int) : (V.int k n).cellsL = [V.int k n] := (rfl)
theorem csize_int (k : IntKind) (n : Int) : (V.int k n).csize = some 1 := (rfl)
theorem cellsL_bool (b : Bool) : (V.bool b).cellsL = [V.bool b] := (rfl)
theorem csize_bool (b : Bool) : (V.bool b).csize = some 1 := (rfl)
theorem cellsL_str (l : List UInt8) : (V.str l).cellsL = [V.str l] := (rfl)
theorem csize_str (l : List UInt8) : (V.str l).csize = some 1 := (rfl)
theorem cellsL_agg (cs : List V) : (V.agg cs).cellsL = cs := (rfl)
theorem csize_agg (cs : List V) : (V.agg cs).csize = some cs.length := (rfl)
theorem cellsL_loc (i off : Nat) : (V.loc i off).cellsL = [V.loc i off] := (rfl)
theorem csize_loc (i off : Nat) : (V.loc i off).csize = some 1 := (rfl)
theorem cellsL_elt (cs : List V) (off : Nat) : (V.elt cs off).cellsL = [V.elt cs off] := (rfl)
theorem csize_elt (cs : List V) (off : Nat) : (V.elt cs off).csize = some 1 := (rfl)
theorem cellsL_nilp : (V.nilp).cellsL = [V.nilp] := (rfl)
theorem csize_nilp : (V.nilp).csize = some 1 := (rfl)
theorem cellsL_list (rows : List V) : (V.list rows).cellsL = [V.list rows] := (rfl)
theorem csize_list (rows : List V) : (V.list rows).csize = some 1 := (rfl)
theorem cellsL_nilfn : (V.nilfn).cellsL = [V.nilfn] := (rfl)
theorem csize_nilfn : (V.nilfn).csize = some 1 := (rfl)
theorem cellsL_nilif : (V.nilif).cellsL = [V.nilif] := (rfl)
theorem csize_nilif : (V.nilif).csize = some 1 := (rfl)
theorem cellsL_iface (t : TypeId) (v : V) : (V.iface t v).cellsL = [V.iface t v] := (rfl)
theorem csize_iface (t : TypeId) (v : V) : (V.iface t v).csize = some 1 := (rfl)
theorem fillV_nil (place : Nat → Option (Nat × Nat)) (cells : List V) : fillV place cells [] = some cells := (rfl)
theorem fillV_cons (place : Nat → Option (Nat × Nat)) (cells : List V) (i : Nat) (v : V) (rest : List (Nat × V)) : fillV place cells ((i, v) :: rest) = match place i, v.csize with
    | some (off, size), some n => if n ≠ size ∨ off + n > cells.length then none else fillV place (cells.take off ++ v.cellsL ++ cells.drop (off + n)) rest
    | _, _ => none := (rfl)
theorem rowsOK_nil (n : Nat) : rowsOK n [] = True := by simp [rowsOK]
theorem rowsOK_cons (n : Nat) (v : V) (l : List V) : rowsOK n (v :: l) = (v.csize = some n ∧ rowsOK n l) := by simp [rowsOK]
theorem idxOK_nil (n : Nat) : idxOK [] n = true := (rfl)
theorem idxOK_cons (i : Nat) (x : Operand) (l : List (Nat × Operand)) (n : Nat) : idxOK ((i, x) :: l) n = (i == n && idxOK l (n + 1)) := (rfl)
theorem kindsOK_nil : kindsOK [] [] = True := by simp [kindsOK]
theorem kindsOK_cons (k : CK) (ks : List CK) (c : V) (cs : List V) : kindsOK (k :: ks) (c :: cs) = (kindV c = some k ∧ kindsOK ks cs) := (rfl)
theorem kindV_int (k : IntKind) (n : Int) : kindV (.int k n) = some (.int k) := (rfl)
theorem kindV_bool (b : Bool) : kindV (.bool b) = some .bool := (rfl)
theorem kindV_str (l : List UInt8) : kindV (.str l) = some .str := (rfl)
theorem cellsL_mref (i : Nat) : (V.mref i).cellsL = [.mref i] := (rfl)
theorem csize_mref (i : Nat) : (V.mref i).csize = some 1 := (rfl)
theorem setBoxes_nil (st : St) (bs : List Box) : st.setBoxes [] bs = st := by cases bs <;> rfl
theorem setBoxes_cons (st : St) (i : Nat) (π : List Nat) (B : Box) (bs : List Box) : st.setBoxes (i :: π) (B :: bs) = (st.setBox i B).setBoxes π bs := (rfl)
theorem boxesOK_nil (st : St) : boxesOK st [] [] = True := (rfl)
theorem boxesOK_cons (st : St) (i : Nat) (π : List Nat) (B : Box) (bs : List Box) : boxesOK st (i :: π) (B :: bs) = ((st.box i = some B ∧ V.noLocL B.cells = true) ∧ boxesOK st π bs) := (rfl)
end
end Go.Eng
namespace Go.Eng
open Go.RowKit
theorem core : (((((((type_of% @opsW_nil ∧ type_of% @opsW_guard) ∧ (type_of% @w_move ∧ (type_of% @w_assign_tmp ∧ type_of% @w_assign_nil))) ∧ ((type_of% @w_assign_int ∧ type_of% @w_assign_bool) ∧ (type_of% @w_assign_str ∧ (type_of% @w_assign_agg ∧ type_of% @w_assign_func)))) ∧ (((type_of% @w_pick ∧ type_of% @w_load) ∧ (type_of% @w_bin ∧ (type_of% @w_un ∧ type_of% @w_conv))) ∧ ((type_of% @w_iface ∧ (type_of% @w_func ∧ type_of% @w_slice)) ∧ (type_of% @w_faddr ∧ (type_of% @w_field ∧ type_of% @w_iaddr))))) ∧ ((((type_of% @w_index ∧ type_of% @w_extract) ∧ (type_of% @w_build ∧ (type_of% @w_bslice ∧ type_of% @w_nil))) ∧ ((type_of% @w_call ∧ (type_of% @callvW_eq ∧ type_of% @w_callv)) ∧ (type_of% @w_len ∧ (type_of% @w_max ∧ type_of% @w_min)))) ∧ (((type_of% @w_append ∧ type_of% @w_box) ∧ (type_of% @allocW_eq ∧ (type_of% @w_alloc ∧ type_of% @w_store))) ∧ ((type_of% @w_lookup ∧ (type_of% @w_mkMap ∧ type_of% @w_mapPut)) ∧ (type_of% @mkMapW_eq ∧ (type_of% @mapPutW_eq ∧ type_of% @lookupW_eq)))))) ∧ (((((type_of% @cellsL_mref ∧ type_of% @csize_mref) ∧ (type_of% @setBoxes_nil ∧ (type_of% @setBoxes_cons ∧ type_of% @boxesOK_nil))) ∧ ((type_of% @boxesOK_cons ∧ (type_of% @brW_true ∧ type_of% @brW_false)) ∧ (type_of% @brW_not ∧ (type_of% @kindsOK_nil ∧ type_of% @kindsOK_cons)))) ∧ (((type_of% @kindV_int ∧ type_of% @kindV_bool) ∧ (type_of% @kindV_str ∧ (type_of% @fillV_nil ∧ type_of% @fillV_cons))) ∧ ((type_of% @rowsOK_nil ∧ (type_of% @rowsOK_cons ∧ type_of% @idxOK_nil)) ∧ (type_of% @idxOK_cons ∧ (type_of% @condW_bool ∧ type_of% @gdW_slot))))) ∧ ((((type_of% @pickW_eq ∧ type_of% @extractW_eq) ∧ (type_of% @assignW_eq ∧ (type_of% @loadW_eq ∧ type_of% @binW_eq))) ∧ ((type_of% @intW_add ∧ (type_of% @intW_sub ∧ type_of% @intW_mul)) ∧ (type_of% @intW_quo ∧ (type_of% @intW_rem ∧ type_of% @intW_eql)))) ∧ (((type_of% @intW_neq ∧ type_of% @intW_lss) ∧ (type_of% @intW_leq ∧ (type_of% @intW_gtr ∧ type_of% @intW_geq))) ∧ ((type_of% @intW_and ∧ (type_of% @intW_or ∧ type_of% @intW_xor)) ∧ (type_of% @intW_andNot ∧ (type_of% @strW_add ∧ type_of% @strW_eql))))))) ∧ ((((((type_of% @strW_neq ∧ type_of% @strW_lss) ∧ (type_of% @unW_not ∧ (type_of% @unW_neg ∧ type_of% @convW_eq))) ∧ ((type_of% @bndW_none ∧ (type_of% @bndW_some ∧ type_of% @sliceW_eq)) ∧ (type_of% @faddrW_eq ∧ (type_of% @fieldW_eq ∧ type_of% @iaddrW_eq)))) ∧ (((type_of% @indexW_eq ∧ type_of% @buildW_eq) ∧ (type_of% @bsliceW_eq ∧ (type_of% @nilW_eq ∧ type_of% @lenW_list))) ∧ ((type_of% @lenW_str ∧ (type_of% @maxW ∧ type_of% @minW)) ∧ (type_of% @boxW_eq ∧ (type_of% @storeW_eq ∧ type_of% @appendW_eq))))) ∧ ((((type_of% @codeW_skip ∧ type_of% @codeW_label) ∧ (type_of% @codeW_exit ∧ (type_of% @codeW_ret ∧ type_of% @codeW_seq))) ∧ ((type_of% @codeW_cond ∧ (type_of% @codeW_block ∧ type_of% @codeW_loop)) ∧ (type_of% @codeW_region ∧ (type_of% @eval_tmp ∧ type_of% @eval_const)))) ∧ (((type_of% @eval_global ∧ type_of% @tokOf_global) ∧ (type_of% @eval_func ∧ (type_of% @tokOf_tmp ∧ type_of% @tokOf_const))) ∧ ((type_of% @tokOf_func ∧ (type_of% @env_mk ∧ type_of% @tok_mk)) ∧ (type_of% @put_mk ∧ (type_of% @put_none ∧ type_of% @newBox_mk)))))) ∧ (((((type_of% @setBox_mk ∧ type_of% @clear_mk) ∧ (type_of% @clr_none ∧ (type_of% @clr_same ∧ type_of% @clr_some))) ∧ ((type_of% @upd_apply ∧ (type_of% @constV_int ∧ type_of% @constV_bool)) ∧ (type_of% @constV_str ∧ (type_of% @constV_nilslice ∧ type_of% @constV_nilfn)))) ∧ (((type_of% @constV_nilif ∧ type_of% @constV_nilp) ∧ (type_of% @endQ_ret ∧ (type_of% @endQ_normal ∧ type_of% @no_outs))) ∧ ((type_of% @resV_one ∧ (type_of% @resV_two ∧ type_of% @resV_three)) ∧ (type_of% @init_mk ∧ (type_of% @cellsL_any ∧ type_of% @csize_any))))) ∧ ((((type_of% @cellsL_int ∧ type_of% @csize_int) ∧ (type_of% @cellsL_bool ∧ (type_of% @csize_bool ∧ type_of% @cellsL_str))) ∧ ((type_of% @csize_str ∧ (type_of% @cellsL_agg ∧ type_of% @csize_agg)) ∧ (type_of% @cellsL_loc ∧ (type_of% @csize_loc ∧ type_of% @cellsL_elt)))) ∧ (((type_of% @csize_elt ∧ type_of% @cellsL_nilp) ∧ (type_of% @csize_nilp ∧ (type_of% @cellsL_list ∧ type_of% @csize_list))) ∧ ((type_of% @cellsL_nilfn ∧ (type_of% @csize_nilfn ∧ type_of% @cellsL_nilif)) ∧ (type_of% @csize_nilif ∧ (type_of% @cellsL_iface ∧ type_of% @csize_iface)))))))) := ⟨⟨⟨⟨⟨⟨⟨@opsW_nil, @opsW_guard⟩, ⟨@w_move, ⟨@w_assign_tmp, @w_assign_nil⟩⟩⟩, ⟨⟨@w_assign_int, @w_assign_bool⟩, ⟨@w_assign_str, ⟨@w_assign_agg, @w_assign_func⟩⟩⟩⟩, ⟨⟨⟨@w_pick, @w_load⟩, ⟨@w_bin, ⟨@w_un, @w_conv⟩⟩⟩, ⟨⟨@w_iface, ⟨@w_func, @w_slice⟩⟩, ⟨@w_faddr, ⟨@w_field, @w_iaddr⟩⟩⟩⟩⟩, ⟨⟨⟨⟨@w_index, @w_extract⟩, ⟨@w_build, ⟨@w_bslice, @w_nil⟩⟩⟩, ⟨⟨@w_call, ⟨@callvW_eq, @w_callv⟩⟩, ⟨@w_len, ⟨@w_max, @w_min⟩⟩⟩⟩, ⟨⟨⟨@w_append, @w_box⟩, ⟨@allocW_eq, ⟨@w_alloc, @w_store⟩⟩⟩, ⟨⟨@w_lookup, ⟨@w_mkMap, @w_mapPut⟩⟩, ⟨@mkMapW_eq, ⟨@mapPutW_eq, @lookupW_eq⟩⟩⟩⟩⟩⟩, ⟨⟨⟨⟨⟨@cellsL_mref, @csize_mref⟩, ⟨@setBoxes_nil, ⟨@setBoxes_cons, @boxesOK_nil⟩⟩⟩, ⟨⟨@boxesOK_cons, ⟨@brW_true, @brW_false⟩⟩, ⟨@brW_not, ⟨@kindsOK_nil, @kindsOK_cons⟩⟩⟩⟩, ⟨⟨⟨@kindV_int, @kindV_bool⟩, ⟨@kindV_str, ⟨@fillV_nil, @fillV_cons⟩⟩⟩, ⟨⟨@rowsOK_nil, ⟨@rowsOK_cons, @idxOK_nil⟩⟩, ⟨@idxOK_cons, ⟨@condW_bool, @gdW_slot⟩⟩⟩⟩⟩, ⟨⟨⟨⟨@pickW_eq, @extractW_eq⟩, ⟨@assignW_eq, ⟨@loadW_eq, @binW_eq⟩⟩⟩, ⟨⟨@intW_add, ⟨@intW_sub, @intW_mul⟩⟩, ⟨@intW_quo, ⟨@intW_rem, @intW_eql⟩⟩⟩⟩, ⟨⟨⟨@intW_neq, @intW_lss⟩, ⟨@intW_leq, ⟨@intW_gtr, @intW_geq⟩⟩⟩, ⟨⟨@intW_and, ⟨@intW_or, @intW_xor⟩⟩, ⟨@intW_andNot, ⟨@strW_add, @strW_eql⟩⟩⟩⟩⟩⟩⟩, ⟨⟨⟨⟨⟨⟨@strW_neq, @strW_lss⟩, ⟨@unW_not, ⟨@unW_neg, @convW_eq⟩⟩⟩, ⟨⟨@bndW_none, ⟨@bndW_some, @sliceW_eq⟩⟩, ⟨@faddrW_eq, ⟨@fieldW_eq, @iaddrW_eq⟩⟩⟩⟩, ⟨⟨⟨@indexW_eq, @buildW_eq⟩, ⟨@bsliceW_eq, ⟨@nilW_eq, @lenW_list⟩⟩⟩, ⟨⟨@lenW_str, ⟨@maxW, @minW⟩⟩, ⟨@boxW_eq, ⟨@storeW_eq, @appendW_eq⟩⟩⟩⟩⟩, ⟨⟨⟨⟨@codeW_skip, @codeW_label⟩, ⟨@codeW_exit, ⟨@codeW_ret, @codeW_seq⟩⟩⟩, ⟨⟨@codeW_cond, ⟨@codeW_block, @codeW_loop⟩⟩, ⟨@codeW_region, ⟨@eval_tmp, @eval_const⟩⟩⟩⟩, ⟨⟨⟨@eval_global, @tokOf_global⟩, ⟨@eval_func, ⟨@tokOf_tmp, @tokOf_const⟩⟩⟩, ⟨⟨@tokOf_func, ⟨@env_mk, @tok_mk⟩⟩, ⟨@put_mk, ⟨@put_none, @newBox_mk⟩⟩⟩⟩⟩⟩, ⟨⟨⟨⟨⟨@setBox_mk, @clear_mk⟩, ⟨@clr_none, ⟨@clr_same, @clr_some⟩⟩⟩, ⟨⟨@upd_apply, ⟨@constV_int, @constV_bool⟩⟩, ⟨@constV_str, ⟨@constV_nilslice, @constV_nilfn⟩⟩⟩⟩, ⟨⟨⟨@constV_nilif, @constV_nilp⟩, ⟨@endQ_ret, ⟨@endQ_normal, @no_outs⟩⟩⟩, ⟨⟨@resV_one, ⟨@resV_two, @resV_three⟩⟩, ⟨@init_mk, ⟨@cellsL_any, @csize_any⟩⟩⟩⟩⟩, ⟨⟨⟨⟨@cellsL_int, @csize_int⟩, ⟨@cellsL_bool, ⟨@csize_bool, @cellsL_str⟩⟩⟩, ⟨⟨@csize_str, ⟨@cellsL_agg, @csize_agg⟩⟩, ⟨@cellsL_loc, ⟨@csize_loc, @cellsL_elt⟩⟩⟩⟩, ⟨⟨⟨@csize_elt, @cellsL_nilp⟩, ⟨@csize_nilp, ⟨@cellsL_list, @csize_list⟩⟩⟩, ⟨⟨@cellsL_nilfn, ⟨@csize_nilfn, @cellsL_nilif⟩⟩, ⟨@csize_nilif, ⟨@cellsL_iface, @csize_iface⟩⟩⟩⟩⟩⟩⟩⟩
theorem core0 : ((type_of% @thenQ_normal ∧ (type_of% @thenQ_ret ∧ type_of% @thenQ_exit)) ∧ (type_of% @blockQ_normal ∧ (type_of% @blockQ_ret ∧ type_of% @blockQ_exit))) := ⟨⟨@thenQ_normal, ⟨@thenQ_ret, @thenQ_exit⟩⟩, ⟨@blockQ_normal, ⟨@blockQ_ret, @blockQ_exit⟩⟩⟩
end Go.Eng
